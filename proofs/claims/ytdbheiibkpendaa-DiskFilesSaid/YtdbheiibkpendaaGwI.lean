/- Two library functions without bodies: their contracts. -/
import Derived.Test.YtdbheiibkpendaaGw10
import Derived.Test.YtdbheiibkpendaaGwI0
namespace Go.Gw
open Go.RowKit

def sub64Entry : Array Value → Sem Value := fun args => do
  let (x, y, b) ← Extern.MathBitsCarry.three "Sub64" args
  pure (Extern.MathBitsCarry.pair ((x + Extern.MathBitsCarry.m64 - y - b) % Extern.MathBitsCarry.m64) (if x < y + b then 1 else 0))

theorem run_sub64 {P : Program} (x y c : Int) (hx : 0 ≤ x) (hy : 0 ≤ y) (hy' : y < 18446744073709551616) (hc0 : 0 ≤ c) (hc : c ≤ 1) (w : World) :
    (sub64Entry #[.int .u64 x, .int .u64 y, .int .u64 c]).run P w =
      .ok (.tuple #[.int .u64 ((x - y - c) % 18446744073709551616), .int .u64 (if x < y + c then 1 else 0)]) w := by
  have key : ∀ k : Nat, k ≤ 1 → (sub64Entry #[.int .u64 x, .int .u64 y, .int .u64 (k : Int)]).run P w =
      .ok (Extern.MathBitsCarry.pair ((x.toNat + Extern.MathBitsCarry.m64 - y.toNat - k) % Extern.MathBitsCarry.m64) (if x.toNat < y.toNat + k then 1 else 0)) w := by
    intro k hk
    have : k = 0 ∨ k = 1 := by omega
    rcases this with rfl | rfl <;> rfl
  obtain ⟨k, rfl⟩ := Int.eq_ofNat_of_zero_le hc0
  rw [key k (by omega)]
  obtain ⟨X, rfl⟩ := Int.eq_ofNat_of_zero_le hx
  obtain ⟨Y, rfl⟩ := Int.eq_ofNat_of_zero_le hy
  simp only [Extern.MathBitsCarry.pair, Extern.MathBitsCarry.m64, Int.toNat_natCast]
  have e1 : (Int.ofNat ((X + 2 ^ 64 - Y - k) % 2 ^ 64)) = ((X : Int) - Y - k) % 18446744073709551616 := by
    simp only [Int.ofNat_eq_natCast]
    omega
  have e2 : (Int.ofNat (if X < Y + k then 1 else 0)) = (if (X : Int) < Y + k then 1 else 0) := by
    by_cases h : X < Y + k
    · rw [if_pos h, if_pos (by omega)]; rfl
    · rw [if_neg h, if_neg (by omega)]; rfl
  rw [e1, e2]

theorem plain_call {P : Program} {f : Nat} {args : List SV} {pre : List (Nat × Ent)} {res : SV} (hr : res.ok)
    (h : ∀ γ w, (callFunc f (args.map (SV.den γ)).toArray).run P w = .ok (.value (res.den γ)) w) : CallOk P f args pre res [] := by
  intro B γ w _ _ _ _ h1
  unfold RunOk
  rw [h γ w]
  exact ⟨γ, fun _ _ => rfl, h1, rfl, hr, BelowX.refl _ _, by simp, fun p hp => by cases hp⟩

theorem add64_ok {P : Program} {f : Nat} {fn : Func} (hf : P.funcs[f]? = some fn) (hname : (fn.name == "runtime.NumGoroutine") = false) (hb : fn.body.isNone = true) (hn : Extern.findNext fn = none)
    (he : Extern.find fn = some add64Entry) (x y c : Int) (r : Int × Int) (h : add64 x y c = some r) {pre : List (Nat × Ent)} :
    CallOk P f [.v (.one (.int .u64 x)), .v (.one (.int .u64 y)), .v (.one (.int .u64 c))] pre (.tup [.one (.int .u64 r.1), .one (.int .u64 r.2)]) [] := by
  refine plain_call (by intro v hv; simp at hv; rcases hv with rfl | rfl <;> exact ⟨trivial, trivial⟩) fun γ w => ?_
  unfold add64 at h
  obtain ⟨⟨h1, h2, h3, h4⟩, h⟩ := ite_some h
  have h := Option.some.inj h
  subst h
  rw [run_callFunc_extern hf hname hb hn he]
  have := run_add64 (P := P) x y c h1 h2 h3 h4 w
  simp only [List.map_cons, List.map_nil, SV.den, V1.den, Leaf.cells, List.headD_cons]
  rw [this]
  rfl

theorem sub64_ok {P : Program} {f : Nat} {fn : Func} (hf : P.funcs[f]? = some fn) (hname : (fn.name == "runtime.NumGoroutine") = false) (hb : fn.body.isNone = true) (hn : Extern.findNext fn = none)
    (he : Extern.find fn = some sub64Entry) (x y c : Int) (r : Int × Int) (h : sub64 x y c = some r) {pre : List (Nat × Ent)} :
    CallOk P f [.v (.one (.int .u64 x)), .v (.one (.int .u64 y)), .v (.one (.int .u64 c))] pre (.tup [.one (.int .u64 r.1), .one (.int .u64 r.2)]) [] := by
  refine plain_call (by intro v hv; simp at hv; rcases hv with rfl | rfl <;> exact ⟨trivial, trivial⟩) fun γ w => ?_
  unfold sub64 at h
  obtain ⟨⟨h1, ⟨h2, h2'⟩, h3, h4⟩, h⟩ := ite_some h
  have h := Option.some.inj h
  subst h
  rw [run_callFunc_extern hf hname hb hn he]
  have := run_sub64 (P := P) x y c h1 h2 h2' h3 h4 w
  simp only [List.map_cons, List.map_nil, SV.den, V1.den, Leaf.cells, List.headD_cons]
  rw [this]
  rfl

/-- A slice that is nil, or is not. -/
theorem nil_or {P : Program} {f : Nat} {k : IntKind} {l : List Int} {res : SV} {news : List (Nat × Ent)} (h1 : l = [] → CallOk P f [.v (.one .nils)] [] res news) (h2 : CallOk P f [.v (.one (.slc 9000))] [(9000, .rdx k l)] res news)
    (hn : (news.all fun p => !Nat.beq p.1 9000) = true) : CallOk P f [.v (.one (.slc 9000))] [(9000, .rd k l)] res news := by
  intro B γ w hp hap hok ht h1'
  have ha : RdI w (γ 9000) k l := hp (9000, .rd k l) (by simp)
  by_cases hv : γ 9000 = .slice none 0 0
  · have hl : l = [] := by
      rcases ha with ⟨_, h⟩ | ⟨a, cap, h, _⟩
      · exact h
      · rw [hv] at h; cases h
    have := h1 hl B γ w (by simp) (fun p hp => by cases hp) (by intro x hx; simp at hx; subst hx; exact ⟨trivial, trivial⟩) ht h1'
    have e : ([SV.v (.one .nils)].map (SV.den γ)).toArray = ([SV.v (.one (.slc 9000))].map (SV.den γ)).toArray := by simp [SV.den, V1.den, Leaf.cells, hv]
    rw [e] at this
    have tch : ∀ b, Touch γ w [] news b → Touch γ w [(9000, .rd k l)] news b := fun b hb => by
      rcases hb with hb | ⟨p, hp, _⟩
      · exact .inl hb
      · cases hp
    refine this.mono ?_
    rintro v w' ⟨γ', g1, g2, g3, g4, g5, g6, g7⟩
    refine ⟨γ', fun κ hκ => g1 κ fun p hp he => ?_, g2, g3, g4, g5.mono fun b _ h => tch b h, fun p hp => ⟨Ent.at_mono tch (g6 p hp).1, fun b hb => tch b ((g6 p hp).2 b hb)⟩, g7⟩
    obtain ⟨q, hq, hqe⟩ := hκ p hp he
    simp only [List.mem_singleton] at hq
    subst hq
    have := List.all_eq_true.1 hn p hp
    rw [he, ← hqe] at this
    cases this
  · have tch : ∀ b, Touch γ w [(9000, .rdx k l)] news b → Touch γ w [(9000, .rd k l)] news b := fun b hb => by
      rcases hb with hb | ⟨p, hp, hm, _⟩
      · exact .inl hb
      · simp only [List.mem_singleton] at hp; subst hp; cases hm
    refine (h2 B γ w (by intro p hp; simp only [List.mem_singleton] at hp; subst hp; exact ⟨ha, hv⟩) (fun p hp q hq hne => by simp only [List.mem_singleton] at hp hq; subst hp; subst hq; exact absurd rfl hne) hok ht h1').mono ?_
    rintro v w' ⟨γ', g1, g2, g3, g4, g5, g6, g7⟩
    refine ⟨γ', fun κ hκ => g1 κ fun p hp he => ?_, g2, g3, g4, g5.mono fun b _ h => tch b h, fun p hp => ⟨Ent.at_mono tch (g6 p hp).1, fun b hb => tch b ((g6 p hp).2 b hb)⟩, g7⟩
    obtain ⟨q, hq, hqe⟩ := hκ p hp he
    simp only [List.mem_singleton] at hq
    subst hq
    exact ⟨(9000, .rdx k l), by simp, hqe⟩
end Go.Gw
