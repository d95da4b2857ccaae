/- Prime numbers: Fermat's theorem, Pocklington's criterion, and 2^255 - 19 is prime. -/
import Derived.KernelRfl
namespace Go.Pn
def Pr (p : Nat) : Prop := 2 ≤ p ∧ ∀ d, d ∣ p → d = 1 ∨ d = p
theorem Pr.dvd_mul {p a b : Nat} (hp : Pr p) (h : p ∣ a * b) : p ∣ a ∨ p ∣ b := by
  rcases hp.2 _ (Nat.gcd_dvd_left p a) with h1 | h1
  · exact .inr (Nat.Coprime.dvd_of_dvd_mul_left h1 h)
  · exact .inl (h1 ▸ Nat.gcd_dvd_right p a)
/-- Pascal's numbers -/
def bC : Nat → Nat → Nat
  | _, 0 => 1
  | 0, _ + 1 => 0
  | n + 1, k + 1 => bC n k + bC n (k + 1)
theorem bC_zero (n : Nat) : bC n 0 = 1 := by cases n <;> rfl
theorem bC_big : ∀ n k, n < k → bC n k = 0 := by
  intro n; induction n with
  | zero => intro k h; cases k with | zero => omega | succ k => rfl
  | succ n ih =>
    intro k h
    cases k with
    | zero => omega
    | succ k => rw [bC, ih k (by omega), ih (k + 1) (by omega)]
theorem bC_self : ∀ n, bC n n = 1 := by
  intro n; induction n with
  | zero => rfl
  | succ n ih => rw [bC, ih, bC_big n (n + 1) (by omega)]
theorem absorb : ∀ n k, (k + 1) * bC (n + 1) (k + 1) = (n + 1) * bC n k := by
  intro n; induction n with
  | zero =>
    intro k
    cases k with
    | zero => rfl
    | succ k => simp [bC]
  | succ n ih =>
    intro k
    rw [bC, Nat.mul_add]
    cases k with
    | zero =>
      have := ih 0
      simp only [bC_zero] at *
      omega
    | succ k =>
      have h1 := ih k
      have h2 := ih (k + 1)
      rw [show bC (n + 1) (k + 1) = bC n k + bC n (k + 1) from rfl] at *
      have e1 : (k + 1 + 1) * (bC n k + bC n (k + 1)) = (k + 1) * (bC n k + bC n (k + 1)) + (bC n k + bC n (k + 1)) := by rw [Nat.add_mul, Nat.one_mul]
      have e2 : (n + 1 + 1) * (bC n k + bC n (k + 1)) = (n + 1) * bC n k + (n + 1) * bC n (k + 1) + (bC n k + bC n (k + 1)) := by rw [Nat.add_mul, Nat.one_mul, Nat.mul_add]
      omega
theorem prime_bC {p k : Nat} (hp : Pr p) (h0 : 0 < k) (h1 : k < p) : p ∣ bC p k := by
  obtain ⟨n, rfl⟩ : ∃ n, p = n + 1 := ⟨p - 1, by have := hp.1; omega⟩
  obtain ⟨j, rfl⟩ : ∃ j, k = j + 1 := ⟨k - 1, by omega⟩
  have h := absorb n j
  rcases hp.dvd_mul (a := j + 1) (b := bC (n + 1) (j + 1)) ⟨_, h⟩ with h2 | h2
  · have := Nat.le_of_dvd (by omega) h2; omega
  · exact h2
def bS (n x : Nat) : Nat → Nat
  | 0 => 0
  | m + 1 => bS n x m + bC n m * x ^ m
theorem bS_succ (n x : Nat) : ∀ m, bS (n + 1) x (m + 1) = bS n x (m + 1) + x * bS n x m := by
  intro m; induction m with
  | zero => simp [bS, bC_zero]
  | succ m ih =>
    rw [bS, ih, bS, bS]
    rw [show bS n x (m + 1) = bS n x m + bC n m * x ^ m from rfl, show bC (n + 1) (m + 1) = bC n m + bC n (m + 1) from rfl]
    rw [Nat.pow_succ]
    generalize x ^ m = y
    generalize bS n x m = s
    generalize bC n m = c
    generalize bC n (m + 1) = d
    grind
theorem binom (n x : Nat) : (x + 1) ^ n = bS n x (n + 1) := by
  induction n with
  | zero => rfl
  | succ n ih =>
    rw [Nat.pow_succ, ih, bS_succ, show bS n x (n + 1 + 1) = bS n x (n + 1) + bC n (n + 1) * x ^ (n + 1) from rfl, bC_big n (n + 1) (by omega), Nat.zero_mul]
    simp only [Nat.add_zero]
    rw [Nat.mul_add, Nat.mul_one, Nat.mul_comm, Nat.add_comm]
theorem dream {p : Nat} (hp : Pr p) (x : Nat) : (x + 1) ^ p % p = (x ^ p + 1) % p := by
  have hs : ∀ m, 1 ≤ m → m ≤ p → bS p x m % p = 1 % p := by
    intro m h1 h2
    induction m with
    | zero => omega
    | succ m ih =>
      by_cases hm : m = 0
      · subst hm; simp [bS, bC_zero]
      · rw [bS, Nat.add_mod, ih (by omega) (by omega)]
        obtain ⟨c, hc⟩ := prime_bC hp (by omega : 0 < m) (by omega)
        rw [hc, Nat.mul_assoc, Nat.mul_mod_right, Nat.add_zero, Nat.mod_mod]
  rw [binom, show bS p x (p + 1) = bS p x p + bC p p * x ^ p from rfl, bC_self, Nat.one_mul, Nat.add_mod, hs p (by have := hp.1; omega) (Nat.le_refl _), ← Nat.add_mod, Nat.add_comm]
/-- FERMAT'S THEOREM -/
theorem fermat {p : Nat} (hp : Pr p) (x : Nat) : x ^ p % p = x % p := by
  induction x with
  | zero => rw [Nat.zero_pow (by have := hp.1; omega)]
  | succ x ih => rw [dream hp, Nat.add_mod, ih, ← Nat.add_mod]
theorem dvd_sub_of_mod {p a b : Nat} (h : a % p = b % p) : p ∣ a - b := Nat.dvd_of_mod_eq_zero (Nat.sub_mod_eq_zero_of_mod_eq h)
theorem fermat1 {p : Nat} (hp : Pr p) (x : Nat) (hx : ¬ p ∣ x) : x ^ (p - 1) % p = 1 := by
  have h := fermat hp x
  obtain ⟨n, rfl⟩ : ∃ n, p = n + 1 := ⟨p - 1, by have := hp.1; omega⟩
  rw [Nat.add_sub_cancel]
  have h2 := hp.1
  have x0 : x ≠ 0 := fun h => hx (h ▸ Nat.dvd_zero _)
  have hd : n + 1 ∣ x ^ (n + 1) - x := dvd_sub_of_mod h
  have e : x ^ (n + 1) - x = x * (x ^ n - 1) := by rw [Nat.mul_sub, Nat.mul_one, Nat.pow_succ, Nat.mul_comm]
  rw [e] at hd
  have hd := (hp.dvd_mul hd).resolve_left hx
  have pos : 1 ≤ x ^ n := Nat.one_le_iff_ne_zero.2 (Nat.pos_iff_ne_zero.1 (Nat.pow_pos (Nat.pos_of_ne_zero x0)))
  obtain ⟨c, hc⟩ := hd
  have : x ^ n = 1 + (n + 1) * c := by omega
  rw [this, Nat.add_mul_mod_self_left, Nat.mod_eq_of_lt (by omega)]
/-- a power modulo n, by squaring -/
def pm (n : Nat) : Nat → Nat → Nat → Nat → Nat
  | 0, _, _, acc => acc
  | k + 1, b, e, acc => pm n k (b * b % n) (e / 2) (if e % 2 = 1 then acc * b % n else acc)
theorem pm_ok (n : Nat) : ∀ k b e acc, e < 2 ^ k → pm n k b e acc % n = acc * b ^ e % n := by
  intro k; induction k with
  | zero => intro b e acc h; have : e = 0 := by simpa using h
            subst this; simp [pm]
  | succ k ih =>
    intro b e acc h
    rw [pm, ih _ _ _ (by rw [Nat.pow_succ] at h; omega)]
    have hb : (b * b % n) ^ (e / 2) % n = b ^ (2 * (e / 2)) % n := by
      rw [← Nat.pow_mod, Nat.pow_mul, Nat.pow_two]
    by_cases he : e % 2 = 1
    · rw [if_pos he, Nat.mul_mod, hb, ← Nat.mul_mod, Nat.mod_mul_mod]
      have : e = 1 + 2 * (e / 2) := by omega
      conv => rhs; rw [this, Nat.pow_add, Nat.pow_one, ← Nat.mul_assoc]
    · rw [if_neg he, Nat.mul_mod, hb, ← Nat.mul_mod]
      have : 2 * (e / 2) = e := by omega
      rw [this]
theorem least {n : Nat} (hn : 2 ≤ n) : ∃ r, Pr r ∧ r ∣ n ∧ (r = n ∨ r * r ≤ n) := by
  have : ∃ r, 2 ≤ r ∧ r ∣ n ∧ ∀ d, 2 ≤ d → d ∣ n → r ≤ d := by
    have key : ∀ m, ∀ d, d ≤ m → 2 ≤ d → d ∣ n → ∃ r, 2 ≤ r ∧ r ∣ n ∧ ∀ d, 2 ≤ d → d ∣ n → r ≤ d := by
      intro m; induction m with
      | zero => intro d h1 h2; omega
      | succ m ih =>
        intro d h1 h2 h3
        by_cases h : ∃ c, 2 ≤ c ∧ c ∣ n ∧ c < d
        · obtain ⟨c, a1, a2, a3⟩ := h; exact ih c (by omega) a1 a2
        · exact ⟨d, h2, h3, fun c a1 a2 => Nat.le_of_not_lt fun hl => h ⟨c, a1, a2, hl⟩⟩
    exact key n n (Nat.le_refl _) hn (Nat.dvd_refl _)
  obtain ⟨r, h2, hd, hl⟩ := this
  refine ⟨r, ⟨h2, fun d hdr => ?_⟩, hd, ?_⟩
  · have dn : d ∣ n := Nat.dvd_trans hdr hd
    have d0 : d ≠ 0 := fun h => by subst h; have := Nat.eq_zero_of_zero_dvd hdr; omega
    by_cases d1 : d = 1
    · exact .inl d1
    · have := hl d (by omega) dn
      have := Nat.le_of_dvd (by omega) hdr
      exact .inr (by omega)
  · obtain ⟨c, hc⟩ := hd
    by_cases c1 : c = 1
    · left; rw [hc, c1, Nat.mul_one]
    · right
      have c0 : c ≠ 0 := fun h => by subst h; omega
      have := hl c (by omega) ⟨r, by rw [hc, Nat.mul_comm]⟩
      rw [hc]; exact Nat.mul_le_mul_left r this
theorem pr_of (n F : Nat) (hn : 2 ≤ n) (hF : n < F * F) (h : ∀ r, Pr r → r ∣ n → F ∣ r - 1) : Pr n := by
  obtain ⟨r, hr, hd, hc⟩ := least hn
  rcases hc with rfl | hc
  · exact hr
  · have h1 := Nat.le_of_dvd (by have := hr.1; omega) (h r hr hd)
    have : F * F ≤ r * r := Nat.mul_le_mul (by omega) (by omega)
    omega
def smallB (n : Nat) : Bool := decide (2 ≤ n) && (List.range 1000).all fun d => decide (d < 2) || decide (n < d * d) || decide (n % d ≠ 0)
theorem small_pr {n : Nat} (hn : n < 1000000) (h : smallB n = true) : Pr n := by
  unfold smallB at h
  rw [Bool.and_eq_true, decide_eq_true_eq, List.all_eq_true] at h
  obtain ⟨r, hr, hd, hc⟩ := least h.1
  rcases hc with rfl | hc
  · exact hr
  · have rl : r < 1000 := Nat.lt_of_not_le fun hl => by have : 1000 * 1000 ≤ r * r := Nat.mul_le_mul hl hl; omega
    have := h.2 r (List.mem_range.2 rl)
    simp only [Bool.or_eq_true, decide_eq_true_eq] at this
    have h2 := hr.1
    have h3 := Nat.mod_eq_zero_of_dvd hd
    omega
/-- one step of the criterion -/
theorem pock1 (n a q k : Nat) (hn : 2 ≤ n) (hq : Pr q) (hk : n - 1 = q * k) (hb : n < 2 ^ 256) (h1 : pm n 256 (a % n) (n - 1) 1 % n = 1) (h2 : Nat.gcd (pm n 256 (a % n) k 1 % n + n - 1) n = 1) : ∀ r, Pr r → r ∣ n → q ∣ r - 1 := by
  intro r hr hd
  have k1 : n - 1 < 2 ^ 256 := Nat.lt_of_le_of_lt (Nat.sub_le _ _) hb
  have q1 := hq.1
  have k2 : k < 2 ^ 256 := by
    have : k ≤ q * k := Nat.le_mul_of_pos_left k (by omega)
    omega
  rw [pm_ok n 256 _ _ _ k1, Nat.one_mul, ← Nat.pow_mod] at h1
  rw [pm_ok n 256 _ _ _ k2, Nat.one_mul, ← Nat.pow_mod] at h2
  have r2 := hr.1
  -- modulo r
  have b1 : (a ^ k) ^ q % r = 1 := by
    rw [← Nat.pow_mul, Nat.mul_comm k q, ← hk]
    have := Nat.mod_mod_of_dvd (a ^ (n - 1)) hd
    rw [h1, Nat.mod_eq_of_lt (by omega : 1 < r)] at this
    exact this.symm
  have b2 : a ^ k % r ≠ 1 := by
    intro h
    have e : (a ^ k % n) % r = 1 := by rw [Nat.mod_mod_of_dvd _ hd]; exact h
    have hr1 : r ∣ a ^ k % n + n - 1 := by
      obtain ⟨c, hc⟩ := hd
      have hm := Nat.div_add_mod (a ^ k % n) r
      rw [e] at hm
      exact ⟨a ^ k % n / r + c, by rw [Nat.mul_add, ← hc]; omega⟩
    have := Nat.dvd_gcd hr1 hd
    rw [h2] at this
    have := Nat.le_of_dvd (by decide) this
    omega
  rcases hq.2 _ (Nat.gcd_dvd_left q (r - 1)) with hg | hg
  · exfalso
    have nd : ¬ r ∣ a ^ k := by
      intro h
      have : (a ^ k) ^ q % r = 0 := by
        rw [Nat.pow_mod, Nat.mod_eq_zero_of_dvd h, Nat.zero_pow (by omega), Nat.zero_mod]
      omega
    have b3 := fermat1 hr _ nd
    generalize a ^ k = b at *
    -- b ^ gcd = 1
    have key : ∀ m s t, s + t ≤ m → b ^ s % r = 1 → b ^ t % r = 1 → b ^ Nat.gcd s t % r = 1 := by
      intro m; induction m with
      | zero => intro s t h e1 e2; have h : s + t ≤ 0 := h
                have h1 : s = 0 := by omega
                have h2 : t = 0 := by omega
                subst h1; subst h2; exact e1
      | succ m ih =>
        intro s t h e1 e2
        by_cases s0 : s = 0
        · subst s0; rw [Nat.gcd_zero_left]; exact e2
        by_cases t0 : t = 0
        · subst t0; rw [Nat.gcd_zero_right]; exact e1
        by_cases hst : s ≤ t
        · have e3 : b ^ (t - s) % r = 1 := by
            have : b ^ t = b ^ s * b ^ (t - s) := by rw [← Nat.pow_add]; congr 1; omega
            rw [this, Nat.mul_mod, e1, Nat.one_mul, Nat.mod_mod] at e2; exact e2
          have := ih s (t - s) (by omega) e1 e3
          rwa [Nat.gcd_sub_self_right hst] at this
        · have e3 : b ^ (s - t) % r = 1 := by
            have : b ^ s = b ^ t * b ^ (s - t) := by rw [← Nat.pow_add]; congr 1; omega
            rw [this, Nat.mul_mod, e2, Nat.one_mul, Nat.mod_mod] at e1; exact e1
          have := ih (s - t) t (by omega) e3 e2
          rwa [Nat.gcd_sub_self_left (by omega)] at this
    have := key _ q (r - 1) (Nat.le_refl _) b1 b3
    rw [hg, Nat.pow_one] at this
    exact b2 this
  · rw [← hg]; exact Nat.gcd_dvd_right q (r - 1)
theorem pock2 (n a q p k j : Nat) (hn : 2 ≤ n) (hq : Pr q) (hp : Pr p) (hqp : Nat.gcd q p = 1) (hk : n - 1 = q * k) (hj : n - 1 = p * j) (hb : n < 2 ^ 256) (hF : n < (q * p) * (q * p)) (h1 : pm n 256 (a % n) (n - 1) 1 % n = 1)
    (h2 : Nat.gcd (pm n 256 (a % n) k 1 % n + n - 1) n = 1) (h3 : Nat.gcd (pm n 256 (a % n) j 1 % n + n - 1) n = 1) : Pr n :=
  pr_of n (q * p) hn hF fun r hr hd => Nat.Coprime.mul_dvd_of_dvd_of_dvd hqp (pock1 n a q k hn hq hk hb h1 h2 r hr hd) (pock1 n a p j hn hp hj hb h1 h3 r hr hd)
theorem pockOne (n a q k : Nat) (hn : 2 ≤ n) (hq : Pr q) (hk : n - 1 = q * k) (hb : n < 2 ^ 256) (hF : n < q * q) (h1 : pm n 256 (a % n) (n - 1) 1 % n = 1)
    (h2 : Nat.gcd (pm n 256 (a % n) k 1 % n + n - 1) n = 1) : Pr n :=
  pr_of n q hn hF fun r hr hd => pock1 n a q k hn hq hk hb h1 h2 r hr hd
end Go.Pn
