/- Prime numbers: Fermat's theorem, Pocklington's criterion, and 2^255 - 19 is prime. -/
import Derived.KernelRfl
import Derived.Test.YtdcdanfeepncmaaMPnJ
namespace Go.Pn
def Pr (p : Nat) : Prop := 2 ≤ p ∧ ∀ d, d ∣ p → d = 1 ∨ d = p
theorem Pr.dvd_mul {p a b : Nat} (hp : Pr p) (h : p ∣ a * b) : p ∣ a ∨ p ∣ b := by
  rcases hp.2 _ (Nat.gcd_dvd_left p a) with h1 | h1
  · exact .inr (Nat.Coprime.dvd_of_dvd_mul_left h1 h)
  · exact .inl (h1 ▸ Nat.gcd_dvd_right p a)
/-- Pascal's numbers -/
def bC : Nat → Nat → Nat
  | _, 0 => 1
  | 0, _ + 1 => 0
  | n + 1, k + 1 => bC n k + bC n (k + 1)
theorem bC_zero (n : Nat) : bC n 0 = 1 := by cases n <;> rfl
theorem bC_big : ∀ n k, n < k → bC n k = 0 := by
  intro n; induction n with
  | zero => intro k h; cases k with | zero => omega | succ k => rfl
  | succ n ih =>
    intro k h
    cases k with
    | zero => omega
    | succ k => rw [bC, ih k (by omega), ih (k + 1) (by omega)]
theorem bC_self : ∀ n, bC n n = 1 := by
  intro n; induction n with
  | zero => rfl
  | succ n ih => rw [bC, ih, bC_big n (n + 1) (by omega)]
theorem absorb : ∀ n k, (k + 1) * bC (n + 1) (k + 1) = (n + 1) * bC n k := by
  intro n; induction n with
  | zero =>
    intro k
    cases k with
    | zero => rfl
    | succ k => simp [bC]
  | succ n ih =>
    intro k
    rw [bC, Nat.mul_add]
    cases k with
    | zero =>
      have := ih 0
      simp only [bC_zero] at *
      omega
    | succ k =>
      have h1 := ih k
      have h2 := ih (k + 1)
      rw [show bC (n + 1) (k + 1) = bC n k + bC n (k + 1) from rfl] at *
      have e1 : (k + 1 + 1) * (bC n k + bC n (k + 1)) = (k + 1) * (bC n k + bC n (k + 1)) + (bC n k + bC n (k + 1)) := by rw [Nat.add_mul, Nat.one_mul]
      have e2 : (n + 1 + 1) * (bC n k + bC n (k + 1)) = (n + 1) * bC n k + (n + 1) * bC n (k + 1) + (bC n k + bC n (k + 1)) := by rw [Nat.add_mul, Nat.one_mul, Nat.mul_add]
      omega
theorem prime_bC {p k : Nat} (hp : Pr p) (h0 : 0 < k) (h1 : k < p) : p ∣ bC p k := by
  obtain ⟨n, rfl⟩ : ∃ n, p = n + 1 := ⟨p - 1, by have := hp.1; omega⟩
  obtain ⟨j, rfl⟩ : ∃ j, k = j + 1 := ⟨k - 1, by omega⟩
  have h := absorb n j
  rcases hp.dvd_mul (a := j + 1) (b := bC (n + 1) (j + 1)) ⟨_, h⟩ with h2 | h2
  · have := Nat.le_of_dvd (by omega) h2; omega
  · exact h2
def bS (n x : Nat) : Nat → Nat
  | 0 => 0
  | m + 1 => bS n x m + bC n m * x ^ m
theorem bS_succ (n x : Nat) : ∀ m, bS (n + 1) x (m + 1) = bS n x (m + 1) + x * bS n x m := by
  intro m; induction m with
  | zero => simp [bS, bC_zero]
  | succ m ih =>
    rw [bS, ih, bS, bS]
    rw [show bS n x (m + 1) = bS n x m + bC n m * x ^ m from rfl, show bC (n + 1) (m + 1) = bC n m + bC n (m + 1) from rfl]
    rw [Nat.pow_succ]
    generalize x ^ m = y
    generalize bS n x m = s
    generalize bC n m = c
    generalize bC n (m + 1) = d
    grind
theorem binom (n x : Nat) : (x + 1) ^ n = bS n x (n + 1) := by
  induction n with
  | zero => rfl
  | succ n ih =>
    rw [Nat.pow_succ, ih, bS_succ, show bS n x (n + 1 + 1) = bS n x (n + 1) + bC n (n + 1) * x ^ (n + 1) from rfl, bC_big n (n + 1) (by omega), Nat.zero_mul]
    simp only [Nat.add_zero]
    rw [Nat.mul_add, Nat.mul_one, Nat.mul_comm, Nat.add_comm]
theorem dream {p : Nat} (hp : Pr p) (x : Nat) : (x + 1) ^ p % p = (x ^ p + 1) % p := by
  have hs : ∀ m, 1 ≤ m → m ≤ p → bS p x m % p = 1 % p := by
    intro m h1 h2
    induction m with
    | zero => omega
    | succ m ih =>
      by_cases hm : m = 0
      · subst hm; simp [bS, bC_zero]
      · rw [bS, Nat.add_mod, ih (by omega) (by omega)]
        obtain ⟨c, hc⟩ := prime_bC hp (by omega : 0 < m) (by omega)
        rw [hc, Nat.mul_assoc, Nat.mul_mod_right, Nat.add_zero, Nat.mod_mod]
  rw [binom, show bS p x (p + 1) = bS p x p + bC p p * x ^ p from rfl, bC_self, Nat.one_mul, Nat.add_mod, hs p (by have := hp.1; omega) (Nat.le_refl _), ← Nat.add_mod, Nat.add_comm]
/-- FERMAT'S THEOREM -/
theorem fermat {p : Nat} (hp : Pr p) (x : Nat) : x ^ p % p = x % p := by
  induction x with
  | zero => rw [Nat.zero_pow (by have := hp.1; omega)]
  | succ x ih => rw [dream hp, Nat.add_mod, ih, ← Nat.add_mod]
theorem dvd_sub_of_mod {p a b : Nat} (h : a % p = b % p) : p ∣ a - b := Nat.dvd_of_mod_eq_zero (Nat.sub_mod_eq_zero_of_mod_eq h)
theorem fermat1 {p : Nat} (hp : Pr p) (x : Nat) (hx : ¬ p ∣ x) : x ^ (p - 1) % p = 1 := by
  have h := fermat hp x
  obtain ⟨n, rfl⟩ : ∃ n, p = n + 1 := ⟨p - 1, by have := hp.1; omega⟩
  rw [Nat.add_sub_cancel]
  have h2 := hp.1
  have x0 : x ≠ 0 := fun h => hx (h ▸ Nat.dvd_zero _)
  have hd : n + 1 ∣ x ^ (n + 1) - x := dvd_sub_of_mod h
  have e : x ^ (n + 1) - x = x * (x ^ n - 1) := by rw [Nat.mul_sub, Nat.mul_one, Nat.pow_succ, Nat.mul_comm]
  rw [e] at hd
  have hd := (hp.dvd_mul hd).resolve_left hx
  have pos : 1 ≤ x ^ n := Nat.one_le_iff_ne_zero.2 (Nat.pos_iff_ne_zero.1 (Nat.pow_pos (Nat.pos_of_ne_zero x0)))
  obtain ⟨c, hc⟩ := hd
  have : x ^ n = 1 + (n + 1) * c := by omega
  rw [this, Nat.add_mul_mod_self_left, Nat.mod_eq_of_lt (by omega)]
/-- a power modulo n, by squaring -/
def pm (n : Nat) : Nat → Nat → Nat → Nat → Nat
  | 0, _, _, acc => acc
  | k + 1, b, e, acc => pm n k (b * b % n) (e / 2) (if e % 2 = 1 then acc * b % n else acc)
theorem pm_ok (n : Nat) : ∀ k b e acc, e < 2 ^ k → pm n k b e acc % n = acc * b ^ e % n := by
  intro k; induction k with
  | zero => intro b e acc h; have : e = 0 := by simpa using h
            subst this; simp [pm]
  | succ k ih =>
    intro b e acc h
    rw [pm, ih _ _ _ (by rw [Nat.pow_succ] at h; omega)]
    have hb : (b * b % n) ^ (e / 2) % n = b ^ (2 * (e / 2)) % n := by
      rw [← Nat.pow_mod, Nat.pow_mul, Nat.pow_two]
    by_cases he : e % 2 = 1
    · rw [if_pos he, Nat.mul_mod, hb, ← Nat.mul_mod, Nat.mod_mul_mod]
      have : e = 1 + 2 * (e / 2) := by omega
      conv => rhs; rw [this, Nat.pow_add, Nat.pow_one, ← Nat.mul_assoc]
    · rw [if_neg he, Nat.mul_mod, hb, ← Nat.mul_mod]
      have : 2 * (e / 2) = e := by omega
      rw [this]
theorem least {n : Nat} (hn : 2 ≤ n) : ∃ r, Pr r ∧ r ∣ n ∧ (r = n ∨ r * r ≤ n) := by
  have : ∃ r, 2 ≤ r ∧ r ∣ n ∧ ∀ d, 2 ≤ d → d ∣ n → r ≤ d := by
    have key : ∀ m, ∀ d, d ≤ m → 2 ≤ d → d ∣ n → ∃ r, 2 ≤ r ∧ r ∣ n ∧ ∀ d, 2 ≤ d → d ∣ n → r ≤ d := by
      intro m; induction m with
      | zero => intro d h1 h2; omega
      | succ m ih =>
        intro d h1 h2 h3
        by_cases h : ∃ c, 2 ≤ c ∧ c ∣ n ∧ c < d
        · obtain ⟨c, a1, a2, a3⟩ := h; exact ih c (by omega) a1 a2
        · exact ⟨d, h2, h3, fun c a1 a2 => Nat.le_of_not_lt fun hl => h ⟨c, a1, a2, hl⟩⟩
    exact key n n (Nat.le_refl _) hn (Nat.dvd_refl _)
  obtain ⟨r, h2, hd, hl⟩ := this
  refine ⟨r, ⟨h2, fun d hdr => ?_⟩, hd, ?_⟩
  · have dn : d ∣ n := Nat.dvd_trans hdr hd
    have d0 : d ≠ 0 := fun h => by subst h; have := Nat.eq_zero_of_zero_dvd hdr; omega
    by_cases d1 : d = 1
    · exact .inl d1
    · have := hl d (by omega) dn
      have := Nat.le_of_dvd (by omega) hdr
      exact .inr (by omega)
  · obtain ⟨c, hc⟩ := hd
    by_cases c1 : c = 1
    · left; rw [hc, c1, Nat.mul_one]
    · right
      have c0 : c ≠ 0 := fun h => by subst h; omega
      have := hl c (by omega) ⟨r, by rw [hc, Nat.mul_comm]⟩
      rw [hc]; exact Nat.mul_le_mul_left r this
theorem pr_of (n F : Nat) (hn : 2 ≤ n) (hF : n < F * F) (h : ∀ r, Pr r → r ∣ n → F ∣ r - 1) : Pr n := by
  obtain ⟨r, hr, hd, hc⟩ := least hn
  rcases hc with rfl | hc
  · exact hr
  · have h1 := Nat.le_of_dvd (by have := hr.1; omega) (h r hr hd)
    have : F * F ≤ r * r := Nat.mul_le_mul (by omega) (by omega)
    omega
def smallB (n : Nat) : Bool := decide (2 ≤ n) && (List.range 1000).all fun d => decide (d < 2) || decide (n < d * d) || decide (n % d ≠ 0)
theorem small_pr {n : Nat} (hn : n < 1000000) (h : smallB n = true) : Pr n := by
  unfold smallB at h
  rw [Bool.and_eq_true, decide_eq_true_eq, List.all_eq_true] at h
  obtain ⟨r, hr, hd, hc⟩ := least h.1
  rcases hc with rfl | hc
  · exact hr
  · have rl : r < 1000 := Nat.lt_of_not_le fun hl => by have : 1000 * 1000 ≤ r * r := Nat.mul_le_mul hl hl; omega
    have := h.2 r (List.mem_range.2 rl)
    simp only [Bool.or_eq_true, decide_eq_true_eq] at this
    have h2 := hr.1
    have h3 := Nat.mod_eq_zero_of_dvd hd
    omega
/-- one step of the criterion -/
theorem pock1 (n a q k : Nat) (hn : 2 ≤ n) (hq : Pr q) (hk : n - 1 = q * k) (hb : n < 2 ^ 256) (h1 : pm n 256 (a % n) (n - 1) 1 % n = 1) (h2 : Nat.gcd (pm n 256 (a % n) k 1 % n + n - 1) n = 1) : ∀ r, Pr r → r ∣ n → q ∣ r - 1 := by
  intro r hr hd
  have k1 : n - 1 < 2 ^ 256 := Nat.lt_of_le_of_lt (Nat.sub_le _ _) hb
  have q1 := hq.1
  have k2 : k < 2 ^ 256 := by
    have : k ≤ q * k := Nat.le_mul_of_pos_left k (by omega)
    omega
  rw [pm_ok n 256 _ _ _ k1, Nat.one_mul, ← Nat.pow_mod] at h1
  rw [pm_ok n 256 _ _ _ k2, Nat.one_mul, ← Nat.pow_mod] at h2
  have r2 := hr.1
  -- modulo r
  have b1 : (a ^ k) ^ q % r = 1 := by
    rw [← Nat.pow_mul, Nat.mul_comm k q, ← hk]
    have := Nat.mod_mod_of_dvd (a ^ (n - 1)) hd
    rw [h1, Nat.mod_eq_of_lt (by omega : 1 < r)] at this
    exact this.symm
  have b2 : a ^ k % r ≠ 1 := by
    intro h
    have e : (a ^ k % n) % r = 1 := by rw [Nat.mod_mod_of_dvd _ hd]; exact h
    have hr1 : r ∣ a ^ k % n + n - 1 := by
      obtain ⟨c, hc⟩ := hd
      have hm := Nat.div_add_mod (a ^ k % n) r
      rw [e] at hm
      exact ⟨a ^ k % n / r + c, by rw [Nat.mul_add, ← hc]; omega⟩
    have := Nat.dvd_gcd hr1 hd
    rw [h2] at this
    have := Nat.le_of_dvd (by decide) this
    omega
  rcases hq.2 _ (Nat.gcd_dvd_left q (r - 1)) with hg | hg
  · exfalso
    have nd : ¬ r ∣ a ^ k := by
      intro h
      have : (a ^ k) ^ q % r = 0 := by
        rw [Nat.pow_mod, Nat.mod_eq_zero_of_dvd h, Nat.zero_pow (by omega), Nat.zero_mod]
      omega
    have b3 := fermat1 hr _ nd
    generalize a ^ k = b at *
    -- b ^ gcd = 1
    have key : ∀ m s t, s + t ≤ m → b ^ s % r = 1 → b ^ t % r = 1 → b ^ Nat.gcd s t % r = 1 := by
      intro m; induction m with
      | zero => intro s t h e1 e2; have h : s + t ≤ 0 := h
                have h1 : s = 0 := by omega
                have h2 : t = 0 := by omega
                subst h1; subst h2; exact e1
      | succ m ih =>
        intro s t h e1 e2
        by_cases s0 : s = 0
        · subst s0; rw [Nat.gcd_zero_left]; exact e2
        by_cases t0 : t = 0
        · subst t0; rw [Nat.gcd_zero_right]; exact e1
        by_cases hst : s ≤ t
        · have e3 : b ^ (t - s) % r = 1 := by
            have : b ^ t = b ^ s * b ^ (t - s) := by rw [← Nat.pow_add]; congr 1; omega
            rw [this, Nat.mul_mod, e1, Nat.one_mul, Nat.mod_mod] at e2; exact e2
          have := ih s (t - s) (by omega) e1 e3
          rwa [Nat.gcd_sub_self_right hst] at this
        · have e3 : b ^ (s - t) % r = 1 := by
            have : b ^ s = b ^ t * b ^ (s - t) := by rw [← Nat.pow_add]; congr 1; omega
            rw [this, Nat.mul_mod, e2, Nat.one_mul, Nat.mod_mod] at e1; exact e1
          have := ih (s - t) t (by omega) e3 e2
          rwa [Nat.gcd_sub_self_left (by omega)] at this
    have := key _ q (r - 1) (Nat.le_refl _) b1 b3
    rw [hg, Nat.pow_one] at this
    exact b2 this
  · rw [← hg]; exact Nat.gcd_dvd_right q (r - 1)
theorem pock2 (n a q p k j : Nat) (hn : 2 ≤ n) (hq : Pr q) (hp : Pr p) (hqp : Nat.gcd q p = 1) (hk : n - 1 = q * k) (hj : n - 1 = p * j) (hb : n < 2 ^ 256) (hF : n < (q * p) * (q * p)) (h1 : pm n 256 (a % n) (n - 1) 1 % n = 1)
    (h2 : Nat.gcd (pm n 256 (a % n) k 1 % n + n - 1) n = 1) (h3 : Nat.gcd (pm n 256 (a % n) j 1 % n + n - 1) n = 1) : Pr n :=
  pr_of n (q * p) hn hF fun r hr hd => Nat.Coprime.mul_dvd_of_dvd_of_dvd hqp (pock1 n a q k hn hq hk hb h1 h2 r hr hd) (pock1 n a p j hn hp hj hb h1 h3 r hr hd)
theorem pockOne (n a q k : Nat) (hn : 2 ≤ n) (hq : Pr q) (hk : n - 1 = q * k) (hb : n < 2 ^ 256) (hF : n < q * q) (h1 : pm n 256 (a % n) (n - 1) 1 % n = 1)
    (h2 : Nat.gcd (pm n 256 (a % n) k 1 % n + n - 1) n = 1) : Pr n :=
  pr_of n q hn hF fun r hr hd => pock1 n a q k hn hq hk hb h1 h2 r hr hd
end Go.Pn
/- 2^255 - 19 is a prime number. -/
namespace Go.Pn
set_option maxRecDepth 100000
theorem pr991 : Pr 991 := small_pr (by decide) (by kernel_rfl)
theorem pr103 : Pr 103 := small_pr (by decide) (by kernel_rfl)
theorem pr127 : Pr 127 := small_pr (by decide) (by kernel_rfl)
theorem pr569003 : Pr 569003 := small_pr (by decide) (by kernel_rfl)
theorem pr430751 : Pr 430751 := small_pr (by decide) (by kernel_rfl)
theorem pr4153 : Pr 4153 := small_pr (by decide) (by kernel_rfl)
theorem pr8574133 : Pr 8574133 := pock2 8574133 2 991 103 8652 83244 (by decide) pr991 pr103 (by decide) (by decide) (by decide) (by decide) (by decide) (by kernel_rfl) (by kernel_rfl) (by kernel_rfl)
theorem pr1919519569386763 : Pr 1919519569386763 := pock2 1919519569386763 2 8574133 127 223873314 15114327318006 (by decide) pr8574133 pr127 (by decide) (by decide) (by decide) (by decide) (by decide) (by kernel_rfl) (by kernel_rfl) (by kernel_rfl)
theorem pr2773320623 : Pr 2773320623 := pockOne 2773320623 2 569003 4874 (by decide) pr569003 (by decide) (by decide) (by decide) (by kernel_rfl) (by kernel_rfl)
theorem pr72106336199 : Pr 72106336199 := pockOne 72106336199 2 2773320623 26 (by decide) pr2773320623 (by decide) (by decide) (by decide) (by kernel_rfl) (by kernel_rfl)
theorem pr754457024797 : Pr 75445702479781427272750846543864801 := pock2 75445702479781427272750846543864801 2 1919519569386763 72106336199 39304471641247389600 1046311689884858398375200 (by decide) pr1919519569386763 pr72106336199 (by decide) (by decide) (by decide) (by decide) (by decide) (by kernel_rfl) (by kernel_rfl) (by kernel_rfl)
theorem pr31757755568855353 : Pr 31757755568855353 := pock2 31757755568855353 2 430751 4153 73726481352 7646943310584 (by decide) pr430751 pr4153 (by decide) (by decide) (by decide) (by decide) (by decide) (by kernel_rfl) (by kernel_rfl) (by kernel_rfl)
theorem pr740582127325 : Pr 74058212732561358302231226437062788676166966415465897661863160754340907 := pock2 74058212732561358302231226437062788676166966415465897661863160754340907 2 75445702479781427272750846543864801 31757755568855353 981609426360740691344999861639072106 2331972502653487852620185443007392165117953542933313402 (by decide) pr754457024797 pr31757755568855353 (by decide) (by decide) (by decide) (by decide) (by decide) (by kernel_rfl) (by kernel_rfl) (by kernel_rfl)
theorem pr578960446186 : Pr 57896044618658097711785492504343953926634992332820282019728792003956564819949 := pockOne 57896044618658097711785492504343953926634992332820282019728792003956564819949 2 74058212732561358302231226437062788676166966415465897661863160754340907 781764 (by decide) pr740582127325 (by decide) (by decide) (by decide) (by kernel_rfl) (by kernel_rfl)
end Go.Pn
/- FieldFermat: the 2^255-th power of a number is its 20th. -/
namespace Go.Pn
open Go Go.Gw Go.Proofs.Sb.D
theorem int_pow_mod (x : Int) (n m : Nat) : (x % (m : Int)) ^ n % (m : Int) = x ^ n % (m : Int) := by
  induction n with
  | zero => rw [Int.pow_zero, Int.pow_zero]
  | succ n ih => rw [Int.pow_succ, Int.pow_succ, Int.mul_emod, ih, Int.emod_emod_of_dvd _ (Int.dvd_refl _), ← Int.mul_emod]
theorem fermatI {p : Nat} (hp : Pr p) (x : Int) : x ^ p % (p : Int) = x % (p : Int) := by
  have h2 := hp.1
  have h0 : 0 ≤ x % (p : Int) := Int.emod_nonneg _ (by omega)
  rw [← int_pow_mod]
  obtain ⟨y, hy⟩ := Int.eq_ofNat_of_zero_le h0
  rw [hy]
  have := fermat hp y
  have e : (x % (p : Int)) % (p : Int) = x % (p : Int) := Int.emod_emod_of_dvd _ (Int.dvd_refl _)
  rw [hy] at e
  have t : (y : Int) ^ p % (p : Int) = (y : Int) % (p : Int) := by exact_mod_cast this
  rw [t, e]
theorem fermatP (x : Int) : ∀ n : Nat, n = 57896044618658097711785492504343953926634992332820282019728792003956564819949 → x ^ n % pw = x % pw := by
  intro n hn
  have hp : Pr n := by rw [hn]; exact pr578960446186
  have := fermatI hp x
  rw [show (n : Int) = pw from by rw [hn]; rfl] at this
  exact this
theorem fermat_l0 (a : List Int) : ∀ (k i : Nat) (v : Int), i + k = 255 → law04_FieldFermat_l0 a (k + 1) (fe v) (i : Int) = some (fe (v ^ (2 ^ k))) := by
  intro k; induction k with
  | zero =>
    intro i v h
    rw [law04_FieldFermat_l0, if_neg (by simp; omega), Nat.pow_zero, Int.pow_succ, Int.pow_zero, Int.one_mul]
  | succ k ih =>
    intro i v h
    have hi : IntKind.i64.wrap ((i : Int) + 1) = ((i + 1 : Nat) : Int) := by rw [IntWalk.i64_in _ (by omega)]; omega
    rw [law04_FieldFermat_l0, if_pos (by simp; omega), fmul (bfe v) (bfe v), Option.bind_some, hi, leV_fe, fe_mul_l, fe_mul_r, ih (i + 1) (v * v) (by omega)]
    congr 2
    rw [Nat.pow_succ, Nat.mul_comm, Int.pow_mul]
    congr 1
    rw [Int.pow_succ, Int.pow_succ, Int.pow_zero, Int.one_mul]
theorem fermat_l1 {a : List Int} (ha : Bytes32 a) (m : List Int) : ∀ (k i : Nat) (v : Int), i + k = 19 → law04_FieldFermat_l1 a m (k + 1) (fe v) (i : Int) = some (fe (v * leV a ^ k)) := by
  intro k; induction k with
  | zero =>
    intro i v h
    rw [law04_FieldFermat_l1, if_neg (by simp; omega), Int.pow_zero, Int.mul_one]
  | succ k ih =>
    intro i v h
    have hi : IntKind.i64.wrap ((i : Int) + 1) = ((i + 1 : Nat) : Int) := by rw [IntWalk.i64_in _ (by omega)]; omega
    rw [law04_FieldFermat_l1, if_pos (by simp; omega), fmul (bfe v) ha, Option.bind_some, hi, leV_fe, fe_mul_l, ih (i + 1) (v * leV a) (by omega)]
    congr 2
    rw [Int.pow_succ, Int.mul_assoc, Int.mul_comm (leV a)]
theorem FieldFermat (a0 : List Int) (l0 : a0.length = 32) (w0 : ∀ x ∈ a0, (Lit.int .u8 x).wf = true) : law04_FieldFermat a0 = some true := by
  have ha := bytes_wf l0 w0
  unfold law04_FieldFermat
  have k0 := fermat_l0 a0 255 0 (leV a0) rfl
  have e0 : law04_FieldFermat_l0 a0 (((255 : Int) - (0 : Int)).toNat + 1) (fe (leV a0)) 0 = some (fe (leV a0 ^ (2 ^ 255))) := k0
  have e1 : ∀ m, law04_FieldFermat_l1 a0 m (((19 : Int) - (0 : Int)).toNat + 1) (fe (leV a0)) 0 = some (fe (leV a0 * leV a0 ^ 19)) := fun m => fermat_l1 ha m 19 0 (leV a0) rfl
  simp only [fmod ha, Option.bind_some, e0, e1]
  have key : fe (leV a0 ^ (2 ^ 255)) = fe (leV a0 * leV a0 ^ 19) := by
    apply fe_eq
    generalize leV a0 = x
    generalize hn : (57896044618658097711785492504343953926634992332820282019728792003956564819949 : Nat) = n
    have e : 2 ^ 255 = n + 19 := by rw [← hn]
    rw [e, Int.pow_add, Int.mul_emod, fermatP x n hn.symm, ← Int.mul_emod]
  rw [key]
  simp [wakes4]
end Go.Pn
/- Powers and inverses: FieldInverse, FieldSquares. -/
namespace Go.Pn
open Go Go.Gw Go.Proofs.Sb.D
theorem part_of (v A B M C : Int) (hA : 0 < A) (hB : 0 < B) (h : B * C ∣ M) : v / A % M / B % C = v / (A * B) % C := by
  obtain ⟨k, rfl⟩ := h
  rw [← Int.ediv_ediv_of_nonneg (Int.le_of_lt hA)]
  generalize v / A = u
  have h1 := Int.emod_add_mul_ediv u (B * C * k)
  generalize u % (B * C * k) = r at *
  generalize u / (B * C * k) = q at *
  have e : u = r + C * (k * q) * B := by
    rw [← h1]; congr 1
    simp only [Int.mul_comm, Int.mul_left_comm]
  rw [e, Int.add_mul_ediv_right _ _ (by omega : B ≠ 0), Int.add_mul_emod_self_left]
theorem leB_getD (n : Nat) (v : Int) (j : Nat) (hj : j < n) : (leB n v).getD j 0 = v / 2 ^ (8 * j) % 256 := by
  unfold leB
  rw [List.getD_eq_getElem?_getD, List.getElem?_map, List.getElem?_range hj]; rfl
theorem bit8 (v : Int) (i : Nat) : band .u8 (shr .u8 (v / 2 ^ (8 * (i / 8)) % 256) ((i % 8 : Nat) : Int)) 1 = v / 2 ^ i % 2 := by
  have hs : shr .u8 (v / 2 ^ (8 * (i / 8)) % 256) ((i % 8 : Nat) : Int) = v / 2 ^ (8 * (i / 8)) % 256 / 2 ^ (i % 8) := shr_u _ _ _ _ (by
    have : min (((i % 8 : Nat) : Int).toNat) IntKind.u8.bits = i % 8 := by
      have : IntKind.u8.bits = 8 := rfl
      omega
    rw [this]) (Int.le_of_lt (Int.pow_pos (by decide)))
  have hp : (0 : Int) < 2 ^ (i % 8) := Int.pow_pos (by decide)
  have b0 : 0 ≤ v / 2 ^ (8 * (i / 8)) % 256 ∧ v / 2 ^ (8 * (i / 8)) % 256 < 256 := by omega
  have b1 : 0 ≤ v / 2 ^ (8 * (i / 8)) % 256 / 2 ^ (i % 8) := Int.ediv_nonneg b0.1 (Int.le_of_lt hp)
  have b2 : v / 2 ^ (8 * (i / 8)) % 256 / 2 ^ (i % 8) ≤ v / 2 ^ (8 * (i / 8)) % 256 := Int.ediv_le_self _ b0.1
  rw [hs, band_mask k8 1 (by decide) _ _ 2 (by decide) (by decide) b1 (by show _ < (256 : Int); omega)]
  rw [part_of v _ _ 256 2 (Int.pow_pos (by decide)) hp ⟨2 ^ (7 - i % 8), by
    rw [Int.mul_assoc, ← Int.pow_succ', ← Int.pow_add]
    have : i % 8 + (7 - i % 8 + 1) = 8 := by omega
    rw [this]; decide⟩, ← Int.pow_add]
  have : 8 * (i / 8) + i % 8 = i := by omega
  rw [this]
theorem half_exp (E j : Nat) : E / 2 ^ j = 2 * (E / 2 ^ (j + 1)) + E / 2 ^ j % 2 := by
  rw [Nat.pow_succ, ← Nat.div_div_eq_div_mul]; omega
theorem pow_half (x : Int) (E j : Nat) : x ^ (E / 2 ^ j) = x ^ (E / 2 ^ (j + 1)) * x ^ (E / 2 ^ (j + 1)) * (if E / 2 ^ j % 2 = 1 then x else 1) := by
  have h := half_exp E j
  have : x ^ (E / 2 ^ j) = x ^ (2 * (E / 2 ^ (j + 1)) + E / 2 ^ j % 2) := congrArg (x ^ ·) h
  rw [this, Int.pow_add, Nat.mul_comm 2, Int.pow_mul, Int.pow_succ, Int.pow_succ, Int.pow_zero, Int.one_mul]
  congr 1
  split
  · rename_i h; rw [h, Int.pow_succ, Int.pow_zero, Int.one_mul]
  · have : E / 2 ^ j % 2 = 0 := by omega
    rw [this, Int.pow_zero]
theorem bit_nat (E i : Nat) : ((E : Int) / 2 ^ i % 2 == 1) = decide (E / 2 ^ i % 2 = 1) := by
  have : (E : Int) / 2 ^ i % 2 = ((E / 2 ^ i % 2 : Nat) : Int) := by simp
  rw [this, Bool.eq_iff_iff]
  simp only [beq_iff_eq, decide_eq_true_eq]
  omega
theorem lpow_loop {a : List Int} {x : Int} (ha : Rep a x) (E : Nat) : ∀ j : Nat, j ≤ 256 → ∀ m, Rep m (x ^ (E / 2 ^ j)) →
    ∃ l, limb_Pow_l0 a (leB 32 E) (j + 1) m ((j : Int) - 1) = some l ∧ Rep l (x ^ E) := by
  intro j; induction j with
  | zero =>
    intro _ m hm
    refine ⟨m, ?_, by simpa using hm⟩
    rw [limb_Pow_l0, if_neg (by decide)]
  | succ j ih =>
    intro hj m hm
    have e1 : ((j + 1 : Nat) : Int) - 1 = (j : Int) := by omega
    obtain ⟨m2, f2, r2⟩ := mul_ok hm hm
    have d1 : IntKind.i64.wrap ((j : Int).tdiv 8) = ((j / 8 : Nat) : Int) := by
      rw [Int.tdiv_eq_ediv_of_nonneg (by omega), IntWalk.i64_in _ (by omega)]; omega
    have d2 : (j : Int).tmod 8 = ((j % 8 : Nat) : Int) := by rw [Int.tmod_eq_emod_of_nonneg (by omega)]; omega
    have d3 : IntKind.i64.wrap ((j : Int) - 1) = (j : Int) - 1 := IntWalk.i64_in _ (by omega)
    rw [e1, limb_Pow_l0, if_pos (by simp), f2, Option.bind_some, d1, d2, d3, if_pos (by omega), if_pos (by omega), Int.toNat_natCast, leB_getD 32 _ _ (by omega), bit8, bit_nat]
    by_cases hb : E / 2 ^ j % 2 = 1
    · rw [if_pos (decide_eq_true hb)]
      obtain ⟨m3, f3, r3⟩ := mul_ok r2 ha
      rw [f3, Option.bind_some]
      refine ih (by omega) m3 ?_
      rw [pow_half, if_pos hb]; exact r3
    · rw [decide_eq_false hb, if_neg (by decide)]
      refine ih (by omega) m2 ?_
      rw [pow_half, if_neg hb, Int.mul_one]; exact r2
theorem lpow {a : List Int} {x : Int} (ha : Rep a x) (E : Nat) (hE : E < 2 ^ 256) : ∃ l, limb_Pow a (leB 32 E) = some l ∧ Rep l (x ^ E) := by
  obtain ⟨o, fo, ro⟩ := small_ok 1 (by decide) (by decide)
  obtain ⟨l, f, r⟩ := lpow_loop ha E 256 (Nat.le_refl _) o (by rw [Nat.div_eq_of_lt hE, Int.pow_zero]; exact ro)
  refine ⟨l, ?_, r⟩
  unfold limb_Pow
  rw [fo, Option.bind_some]
  have f' : limb_Pow_l0 a (leB 32 E) (((255 : Int) - (0 : Int) + 1).toNat + 1) o 255 = some l := f
  rw [f', Option.bind_some]
end Go.Pn
/- Inverses modulo p: FieldInverse and FieldSquares. -/
namespace Go.Pn
open Go Go.Gw Go.Proofs.Sb.D
def pN : Nat := 57896044618658097711785492504343953926634992332820282019728792003956564819949
theorem pN_pw : (pN : Int) = pw := by kernel_rfl
theorem pN_pr : Pr pN := pr578960446186
/-- what the program takes as the inverse -/
def ivx (x : Int) : Int := x ^ (pN - 2)
theorem powP_mod (x : Int) (n : Nat) : (x % pw) ^ n % pw = x ^ n % pw := by
  have := int_pow_mod x n pN; rw [pN_pw] at this; exact this
theorem fermat1P (x : Int) (h : x % pw ≠ 0) : x ^ (pN - 1) % pw = 1 := by
  have h2 := pN_pr.1
  rw [← powP_mod]
  have h0 : 0 ≤ x % pw := Int.emod_nonneg _ (by decide)
  have h1 : x % pw < pw := Int.emod_lt_of_pos _ (by decide)
  obtain ⟨y, hy⟩ := Int.eq_ofNat_of_zero_le h0
  rw [hy] at h h1 ⊢
  have hd : ¬ pN ∣ y := fun hd => by
    have := Nat.le_of_dvd (by omega) hd
    have e := pN_pw
    omega
  have := fermat1 pN_pr y hd
  have t : (y : Int) ^ (pN - 1) % (pN : Int) = 1 := by exact_mod_cast this
  rw [pN_pw] at t; exact t
theorem ivx_mul (x : Int) (h : x % pw ≠ 0) : x * ivx x % pw = 1 := by
  have := fermat1P x h
  have h3 : 3 ≤ pN := by decide
  have h2 : pN - 1 = (pN - 2) + 1 := by omega
  rw [h2, Int.pow_succ, Int.mul_comm] at this
  exact this
theorem ivx_zero (x : Int) (h : x % pw = 0) : ivx x % pw = 0 := by
  unfold ivx
  rw [← powP_mod, h, Int.zero_pow (by decide)]; decide
theorem ivx_mod (x : Int) : ivx (x % pw) % pw = ivx x % pw := powP_mod x _
theorem ivx_prod (x y : Int) : ivx (x * y) = ivx x * ivx y := Int.mul_pow ..
theorem ivx_ivx (x : Int) : ivx (ivx x) % pw = x % pw := by
  by_cases h : x % pw = 0
  · rw [h]; exact ivx_zero _ (ivx_zero x h)
  · have h1 := ivx_mul x h
    have h3 : ivx x % pw ≠ 0 := fun hz => by
      rw [Int.mul_emod, hz, Int.mul_zero] at h1; exact absurd h1 (by decide)
    have h2 := ivx_mul (ivx x) h3
    generalize ivx (ivx x) = z at *
    generalize ivx x = y at *
    have e1 : x * (y * z) % pw = x % pw := by rw [Int.mul_emod, h2, Int.mul_one, Int.emod_emod_of_dvd _ (Int.dvd_refl _)]
    have e2 : x * y * z % pw = z % pw := by rw [Int.mul_emod, h1, Int.one_mul, Int.emod_emod_of_dvd _ (Int.dvd_refl _)]
    rw [← e2, Int.mul_assoc, e1]
theorem below21 : limb_Below 255 21 = some (leB 32 ((pN - 2 : Nat) : Int)) := by kernel_rfl
theorem linv {a : List Int} {x : Int} (ha : Rep a x) : ∃ l, limb_Inv a = some l ∧ Rep l (ivx x) := by
  obtain ⟨l, f, r⟩ := lpow ha (pN - 2) (by decide)
  refine ⟨l, ?_, r⟩
  unfold limb_Inv; rw [below21, Option.bind_some, f]; rfl
theorem finv {a : List Int} (ha : Bytes32 a) : field_Inv a = some (fe (ivx (leV a))) := by
  obtain ⟨l, e, r⟩ := of_ok ha; obtain ⟨k, g, t⟩ := linv r
  unfold field_Inv; rw [e, Option.bind_some, g, Option.bind_some, nbytes_rep t]; rfl
theorem bit64 (v : Int) (i : Nat) : band .u64 (shr .u64 (v / 2 ^ (64 * (i / 64)) % 18446744073709551616) ((i % 64 : Nat) : Int)) 1 = v / 2 ^ i % 2 := by
  have hs : shr .u64 (v / 2 ^ (64 * (i / 64)) % 18446744073709551616) ((i % 64 : Nat) : Int) = v / 2 ^ (64 * (i / 64)) % 18446744073709551616 / 2 ^ (i % 64) := shr_u _ _ _ _ (by
    have : min (((i % 64 : Nat) : Int).toNat) IntKind.u64.bits = i % 64 := by
      have : IntKind.u64.bits = 64 := rfl
      omega
    rw [this]) (Int.le_of_lt (Int.pow_pos (by decide)))
  have hp : (0 : Int) < 2 ^ (i % 64) := Int.pow_pos (by decide)
  have b0 : 0 ≤ v / 2 ^ (64 * (i / 64)) % 18446744073709551616 ∧ v / 2 ^ (64 * (i / 64)) % 18446744073709551616 < 18446744073709551616 := by omega
  have b1 : 0 ≤ v / 2 ^ (64 * (i / 64)) % 18446744073709551616 / 2 ^ (i % 64) := Int.ediv_nonneg b0.1 (Int.le_of_lt hp)
  have b2 : v / 2 ^ (64 * (i / 64)) % 18446744073709551616 / 2 ^ (i % 64) ≤ v / 2 ^ (64 * (i / 64)) % 18446744073709551616 := Int.ediv_le_self _ b0.1
  rw [hs, band_mask k64 1 (by decide) _ _ 2 (by decide) (by decide) b1 (by show _ < (18446744073709551616 : Int); omega)]
  rw [part_of v _ _ 18446744073709551616 2 (Int.pow_pos (by decide)) hp ⟨2 ^ (63 - i % 64), by
    rw [Int.mul_assoc, ← Int.pow_succ', ← Int.pow_add]
    have : i % 64 + (63 - i % 64 + 1) = 64 := by omega
    rw [this]; decide⟩, ← Int.pow_add]
  have : 64 * (i / 64) + i % 64 = i := by omega
  rw [this]
theorem rpow_loop {x : Int} (hx : 0 ≤ x ∧ x < 115792089237316195423570985008687907853269984665640564039457584007913129639936) (E : Nat) : ∀ j : Nat, j ≤ 256 → ∀ m, m % pw = x ^ (E / 2 ^ j) % pw → 0 ≤ m ∧ m < pw →
    ref04_Pow_l0 (words4 x) (words4 E) (j + 1) (words4 m) ((j : Int) - 1) = some (words4 (x ^ E % pw)) := by
  intro j; induction j with
  | zero =>
    intro _ m hm hb
    rw [ref04_Pow_l0, if_neg (by decide)]
    rw [Int.emod_eq_of_lt hb.1 hb.2] at hm
    rw [hm]; simp
  | succ j ih =>
    intro hj m hm hb
    have hlt : (pw : Int) < 115792089237316195423570985008687907853269984665640564039457584007913129639936 := by decide
    have e1 : ((j + 1 : Nat) : Int) - 1 = (j : Int) := by omega
    have d1 : IntKind.i64.wrap ((j : Int).tdiv 64) = ((j / 64 : Nat) : Int) := by
      rw [Int.tdiv_eq_ediv_of_nonneg (by omega), IntWalk.i64_in _ (by omega)]; omega
    have d2 : IntKind.u64.wrap ((j : Int).tmod 64) = ((j % 64 : Nat) : Int) := by rw [Int.tmod_eq_emod_of_nonneg (by omega), w64]; omega
    have d3 : IntKind.i64.wrap ((j : Int) - 1) = (j : Int) - 1 := IntWalk.i64_in _ (by omega)
    have hb' := hb
    rw [e1, ref04_Pow_l0, if_pos (by simp), rmul m m ⟨hb.1, by omega⟩ ⟨hb.1, by omega⟩, Option.bind_some, d1, d2, d3, if_pos (by omega), if_pos (by omega), Int.toNat_natCast, words4_get _ _ (by omega), bit64, bit_nat]
    have sq : m * m % pw % pw = x ^ (E / 2 ^ (j + 1)) * x ^ (E / 2 ^ (j + 1)) % pw := by
      rw [Int.emod_emod_of_dvd _ (Int.dvd_refl _), Int.mul_emod, hm, ← Int.mul_emod]
    by_cases hbit : E / 2 ^ j % 2 = 1
    · rw [if_pos (decide_eq_true hbit), rmul _ _ (mod_bd' _) hx, Option.bind_some]
      refine ih (by omega) _ ?_ (mod_bd _)
      rw [pow_half, if_pos hbit, Int.emod_emod_of_dvd _ (Int.dvd_refl _), Int.mul_emod, sq, ← Int.mul_emod]
    · rw [decide_eq_false hbit, if_neg (by decide)]
      refine ih (by omega) _ ?_ (mod_bd _)
      rw [pow_half, if_neg hbit, Int.mul_one]; exact sq
theorem rpow {x : Int} (hx : 0 ≤ x ∧ x < 115792089237316195423570985008687907853269984665640564039457584007913129639936) (E : Nat) (hE : E < 2 ^ 256) : ref04_Pow (words4 x) (words4 E) = some (words4 (x ^ E % pw)) := by
  unfold ref04_Pow
  have f := rpow_loop hx E 256 (Nat.le_refl _) 1 (by rw [Nat.div_eq_of_lt hE, Int.pow_zero]) (by decide)
  have f' : ref04_Pow_l0 (words4 x) (words4 E) (((255 : Int) - (0 : Int) + 1).toNat + 1) [1, 0, 0, 0] 255 = some (words4 (x ^ E % pw)) := f
  rw [f', Option.bind_some]
theorem rinv {x : Int} (hx : 0 ≤ x ∧ x < 115792089237316195423570985008687907853269984665640564039457584007913129639936) : ref04_Inv (words4 x) = some (words4 (ivx x % pw)) := by
  unfold ref04_Inv
  have e2 : [(2 : Int), 0, 0, 0] = words4 2 := by kernel_rfl
  have ep : (pw - 2) % 115792089237316195423570985008687907853269984665640564039457584007913129639936 = ((pN - 2 : Nat) : Int) := by kernel_rfl
  rw [rP, Option.bind_some, e2, rsub pw 2 (by decide) (by decide), Option.bind_some]
  simp only [ep]
  rw [rpow hx (pN - 2) (by decide), Option.bind_some]; rfl
theorem fe_ivx (x : Int) : fe (ivx (x % pw)) = fe (ivx x) := fe_eq (ivx_mod x)
theorem num1 : law04_Num 1 = some (fe 1) := by kernel_rfl
theorem FieldInverse (a0 : List Int) (l0 : a0.length = 32) (w0 : ∀ x ∈ a0, (Lit.int .u8 x).wf = true) : law04_FieldInverse a0 = some true := by
  have ha := bytes_wf l0 w0
  have ba := leV_bd ha
  unfold law04_FieldInverse
  have hfe : ∀ v, leB 32 (v % pw) = fe v := fun _ => rfl
  have hii : fe (ivx (ivx (leV a0))) = fe (leV a0) := fe_eq (ivx_ivx _)
  simp only [finv ha, finv (bfe _), rof ha, Option.bind_some, rmod _ ba, rinv (mod_bd' _), rbytes, hfe, leV_fe, fe_ivx, decide_true, Bool.not_true, Bool.false_eq_true, if_false, fmod ha, hii, num0, num1, wakes4, fmul ha (bfe _), fe_mul_r]
  by_cases h : leV a0 % pw = 0
  · have e1 : fe (leV a0) = fe 0 := fe_eq (by rw [h]; decide)
    have e2 : fe (ivx (leV a0)) = fe 0 := fe_eq (by rw [ivx_zero _ h]; decide)
    simp [e1, e2]
  · have e1 : fe (leV a0) ≠ fe 0 := fun e => h (by have := congrArg leV e; rw [leV_fe, leV_fe] at this; rw [this]; decide)
    have e2 : fe (leV a0 * ivx (leV a0)) = fe 1 := fe_eq (by rw [ivx_mul _ h]; decide)
    simp [e1, e2]
theorem FieldSquares (a0 a1 : List Int) (l0 : a0.length = 32) (w0 : ∀ x ∈ a0, (Lit.int .u8 x).wf = true) (l1 : a1.length = 32) (w1 : ∀ x ∈ a1, (Lit.int .u8 x).wf = true) : law04_FieldSquares a0 a1 = some true := by
  have ha := bytes_wf l0 w0; have hb := bytes_wf l1 w1
  have h0 : Bytes32 (fe 0) := bfe 0
  unfold law04_FieldSquares
  simp only [num0, fadd, fmul, fsub, fmod, ha, hb, bfe, finv ha, finv hb, finv (bfe _), Option.bind_some, leV_fe, fe_ivx, fe_add_r, fe_sub_l, fe_sub_r, fe_mul_l, fe_mul_r, wakes4]
  generalize leV a0 = a; generalize leV a1 = b
  have e1 : a * a - b * b = (a - b) * (a + b) := by grind
  have e2 : (0 - a) * (0 - a) = a * a := by grind
  have e3 : a + (0 - a) = 0 := by omega
  have e4 : 0 - (0 - a) = a := by omega
  rw [e1, e2, e3, e4, ivx_prod]
  simp
end Go.Pn
/- Roots modulo p. -/
namespace Go.Pn
open Go Go.Gw Go.Proofs.Sb.D
theorem fe_iff (x y : Int) : fe x = fe y ↔ x % pw = y % pw :=
  ⟨fun h => by have := congrArg leV h; rwa [leV_fe, leV_fe] at this, fe_eq⟩
theorem words4_inj {x y : Int} (hx : 0 ≤ x ∧ x < 115792089237316195423570985008687907853269984665640564039457584007913129639936) (hy : 0 ≤ y ∧ y < 115792089237316195423570985008687907853269984665640564039457584007913129639936) : words4 x = words4 y ↔ x = y := by
  refine ⟨fun h => ?_, fun h => by rw [h]⟩
  obtain ⟨a0, a1, a2, a3, ea, _, va⟩ := words4_ex x hx.1 hx.2
  obtain ⟨b0, b1, b2, b3, eb, _, vb⟩ := words4_ex y hy.1 hy.2
  rw [ea, eb] at h
  simp only [List.cons.injEq, and_true] at h
  obtain ⟨rfl, rfl, rfl, rfl⟩ := h
  rw [← va, ← vb]
def E1 : Nat := (pN + 3) / 8
def E2 : Nat := (pN - 1) / 4
/-- what is tried as a root -/
def rho (A : Int) : Int := if A ^ E1 * A ^ E1 % pw = A % pw then A ^ E1 else A ^ E1 * 2 ^ E2
def okR (A : Int) : Bool := decide (rho A * rho A % pw = A % pw)
def rv (A : Int) : Int := if rho A % pw % 2 = 1 then 0 - rho A else rho A
theorem below252 : limb_Below 252 2 = some (leB 32 (E1 : Int)) := by kernel_rfl
theorem below253 : limb_Below 253 5 = some (leB 32 (E2 : Int)) := by kernel_rfl
theorem lsame {a b : List Int} {x y : Int} (ha : Rep a x) (hb : Rep b y) : limb_Same a b = some (decide (x % pw = y % pw)) := by
  unfold limb_Same
  rw [nbytes_rep ha, Option.bind_some, nbytes_rep hb, Option.bind_some]
  have : (leB 32 (x % pw) = leB 32 (y % pw)) ↔ x % pw = y % pw := fe_iff x y
  simp only [this]
theorem lroot {a : List Int} {A : Int} (ha : Rep a A) : ∃ l, limb_Root a = some (l, okR A) ∧ Rep l (rho A) := by
  obtain ⟨a3, f3, r3⟩ := lpow ha E1 (by decide)
  obtain ⟨a5, f5, r5⟩ := mul_ok r3 r3
  obtain ⟨a10, f10, r10⟩ := small_ok 2 (by decide) (by decide)
  obtain ⟨a14, f14, r14⟩ := lpow r10 E2 (by decide)
  obtain ⟨a16, f16, r16⟩ := mul_ok r3 r14
  unfold limb_Root
  rw [below252, Option.bind_some, f3, Option.bind_some, f5, Option.bind_some, lsame r5 ha, Option.bind_some]
  unfold okR rho
  by_cases h : A ^ E1 * A ^ E1 % pw = A % pw
  · simp only [h, decide_true, Bool.not_true, Bool.false_eq_true, if_false, if_true, Option.bind_some, f5]
    rw [lsame r5 ha, Option.bind_some]
    simp only [h, decide_true]
    exact ⟨_, rfl, r3⟩
  · obtain ⟨a19, f19, r19⟩ := mul_ok r16 r16
    simp only [h, decide_false, Bool.not_false, if_true, if_false, f10, below253, f14, f16, Option.bind_some, f19]
    rw [lsame r19 ha, Option.bind_some]
    exact ⟨_, rfl, r16⟩
theorem fe_getD0 (v : Int) : (fe v).getD 0 0 = v % pw % 256 := by
  unfold fe; rw [leB_getD 32 _ 0 (by decide)]; simp
theorem odd8 (v : Int) : band .u8 ((fe v).getD 0 0) 1 = v % pw % 2 := by
  have b := mod_bd v
  rw [fe_getD0, band_mask k8 1 (by decide) _ _ 2 (by decide) (by decide) (by omega) (by show _ < (256 : Int); omega)]
  omega
theorem lodd {a : List Int} {x : Int} (ha : Rep a x) : limb_N_Odd a = some (decide (x % pw % 2 = 1)) := by
  unfold limb_N_Odd
  rw [nbytes_rep ha, Option.bind_some]
  have := odd8 x
  unfold fe at this
  rw [this, Bool.eq_iff_iff.2 (by simp : (x % pw % 2 == 1) = true ↔ decide (x % pw % 2 = 1) = true)]
theorem froot {a : List Int} (ha : Bytes32 a) : field_Root a = some (if okR (leV a) then fe (rv (leV a)) else List.replicate 32 0, okR (leV a)) := by
  obtain ⟨l, e, r⟩ := of_ok ha
  obtain ⟨m, f, s⟩ := lroot r
  obtain ⟨z, fz, rz⟩ := small_ok 0 (by decide) (by decide)
  obtain ⟨n, fn, rn⟩ := sub_ok rz s
  unfold field_Root
  rw [e, Option.bind_some, f, Option.bind_some]
  simp only []
  cases hk : okR (leV a)
  · simp
  · simp only [Bool.not_true, Bool.false_eq_true, if_false, if_true]
    rw [lodd s, Option.bind_some]
    unfold rv
    by_cases ho : rho (leV a) % pw % 2 = 1
    · simp only [ho, decide_true, if_true, fz, fn, Option.bind_some]
      rw [nbytes_rep rn, Option.bind_some]; rfl
    · simp only [ho, decide_false, Bool.false_eq_true, if_false, Option.bind_some]
      rw [nbytes_rep s, Option.bind_some]; rfl
theorem words4_odd (v : Int) : band .u64 ((words4 v).getD 0 0) 1 = v % 2 := by
  have e : (words4 v).getD 0 0 = v % 18446744073709551616 := rfl
  rw [e, band_mask k64 1 (by decide) _ _ 2 (by decide) (by decide) (by omega) (by show _ < (18446744073709551616 : Int); omega)]
  omega
theorem half_E1 : (ref04_half (words4 ((pw + 3) % 115792089237316195423570985008687907853269984665640564039457584007913129639936))).bind (fun a => (ref04_half a).bind fun b => ref04_half b) = some (words4 (E1 : Int)) := by kernel_rfl
theorem half_E2 : (ref04_half (words4 ((pw - 1) % 115792089237316195423570985008687907853269984665640564039457584007913129639936))).bind (fun a => ref04_half a) = some (words4 (E2 : Int)) := by kernel_rfl
theorem modmod (x : Int) : x % pw % pw = x % pw := Int.emod_emod_of_dvd _ (Int.dvd_refl _)
end Go.Pn
/- The page's root; FieldRoot. -/
namespace Go.Pn
open Go Go.Gw Go.Proofs.Sb.D
theorem hA1 : ref04_half (words4 ((pw + 3) % 115792089237316195423570985008687907853269984665640564039457584007913129639936)) = some (words4 (((pN + 3) / 2 : Nat) : Int)) := by kernel_rfl
theorem hA2 : ref04_half (words4 (((pN + 3) / 2 : Nat) : Int)) = some (words4 (((pN + 3) / 4 : Nat) : Int)) := by kernel_rfl
theorem hA3 : ref04_half (words4 (((pN + 3) / 4 : Nat) : Int)) = some (words4 (E1 : Int)) := by kernel_rfl
theorem hB1 : ref04_half (words4 ((pw - 1) % 115792089237316195423570985008687907853269984665640564039457584007913129639936)) = some (words4 (((pN - 1) / 2 : Nat) : Int)) := by kernel_rfl
theorem hB2 : ref04_half (words4 (((pN - 1) / 2 : Nat) : Int)) = some (words4 (E2 : Int)) := by kernel_rfl
theorem dec_w (x y : Int) : (words4 (x % pw) = words4 (y % pw)) ↔ x % pw = y % pw := words4_inj (mod_bd' x) (mod_bd' y)
def rhoG (u s A : Int) : Int := if u * u % pw = A % pw then u else u * s
def okG (u s A : Int) : Bool := decide (rhoG u s A * rhoG u s A % pw = A % pw)
def rvG (u s A : Int) : Int := if rhoG u s A % pw % 2 = 1 then 0 - rhoG u s A else rhoG u s A
theorem rho_eq (A : Int) : rho A = rhoG (A ^ E1) (2 ^ E2) A := by unfold rho rhoG; rfl
theorem okR_eq (A : Int) : okR A = okG (A ^ E1) (2 ^ E2) A := by unfold okR okG; rw [rho_eq]
theorem rv_eq (A : Int) : rv A = rvG (A ^ E1) (2 ^ E2) A := by unfold rv rvG; rw [rho_eq]
theorem w1' : [(1 : Int), 0, 0, 0] = words4 1 := by kernel_rfl
theorem w2' : [(2 : Int), 0, 0, 0] = words4 2 := by kernel_rfl
theorem w3' : [(3 : Int), 0, 0, 0] = words4 3 := by kernel_rfl
theorem w0' : List.replicate 4 (0 : Int) = words4 0 := by kernel_rfl
theorem rroot_core {A u s : Int} (hA : 0 ≤ A ∧ A < 115792089237316195423570985008687907853269984665640564039457584007913129639936)
    (pow1 : ref04_Pow (words4 (A % pw)) (words4 (E1 : Int)) = some (words4 (u % pw))) (pow2 : ref04_Pow (words4 2) (words4 (E2 : Int)) = some (words4 (s % pw))) :
    ref04_Root (words4 A) = some (if okG u s A then words4 (rvG u s A % pw) else List.replicate 4 0, okG u s A) := by
  unfold ref04_Root
  rw [rmod A hA, Option.bind_some, rP, Option.bind_some, w3', radd pw 3 (by decide) (by decide), Option.bind_some]
  simp only []
  rw [hA1, Option.bind_some, hA2, Option.bind_some, hA3, Option.bind_some, pow1, Option.bind_some, rmul _ _ (mod_bd' _) (mod_bd' _), ← Int.mul_emod, Option.bind_some]
  by_cases h : u * u % pw = A % pw
  · have hrho : rhoG u s A = u := if_pos h
    have hok : okG u s A = true := by unfold okG; rw [hrho]; exact decide_eq_true h
    rw [hok]
    unfold rvG
    have hd : decide (words4 (u * u % pw) = words4 (A % pw)) = true := decide_eq_true (by rw [h])
    rw [hrho, hd]
    rw [Bool.not_true, if_neg (by decide : ¬ (false = true)), Option.bind_some, if_pos rfl]
    rw [rmul _ _ (mod_bd' _) (mod_bd' _), ← Int.mul_emod, Option.bind_some]
    rw [hd, words4_odd, Bool.not_true, if_neg (by decide : ¬ (false = true))]
    by_cases ho : u % pw % 2 = 1
    · have hb : (u % pw % 2 == 1) = true := by rw [ho]; decide
      rw [if_pos ho, if_pos hb, w0', rsub_mod 0 _ (by decide) (mod_bd' _), Option.bind_some, Option.bind_some, Int.sub_emod_emod]
    · have hb : ¬ ((u % pw % 2 == 1) = true) := by rw [beq_iff_eq]; exact ho
      rw [if_neg ho, if_neg hb, Option.bind_some]
  · have hrho : rhoG u s A = u * s := if_neg h
    have hd0 : decide (words4 (u * u % pw) = words4 (A % pw)) = false := decide_eq_false (by rw [dec_w]; exact h)
    rw [hd0]
    unfold rvG okG
    rw [hrho]
    rw [Bool.not_false, if_pos (rfl : true = true), w1', w2', Option.bind_some, rsub pw 1 (by decide) (by decide), Option.bind_some]
    simp only []
    rw [hB1, Option.bind_some, hB2, Option.bind_some, pow2, Option.bind_some, rmul _ _ (mod_bd' _) (mod_bd' _), ← Int.mul_emod, Option.bind_some, Option.bind_some]
    rw [rmul _ _ (mod_bd' _) (mod_bd' _), ← Int.mul_emod, Option.bind_some]
    by_cases hk : u * s * (u * s) % pw = A % pw
    · have hd : decide (words4 (u * s * (u * s) % pw) = words4 (A % pw)) = true := decide_eq_true (by rw [hk])
      rw [hd, decide_eq_true hk, words4_odd, Bool.not_true, if_neg (by decide : ¬ (false = true)), if_pos rfl]
      by_cases ho : u * s % pw % 2 = 1
      · have hb : (u * s % pw % 2 == 1) = true := by rw [ho]; decide
        rw [if_pos ho, if_pos hb, w0', rsub_mod 0 _ (by decide) (mod_bd' _), Option.bind_some, Option.bind_some, Int.sub_emod_emod]
      · have hb : ¬ ((u * s % pw % 2 == 1) = true) := by rw [beq_iff_eq]; exact ho
        rw [if_neg ho, if_neg hb, Option.bind_some]
    · have hd : decide (words4 (u * s * (u * s) % pw) = words4 (A % pw)) = false := decide_eq_false (by rw [dec_w]; exact hk)
      rw [hd, decide_eq_false hk, Bool.not_false, if_pos (rfl : true = true), if_neg (by decide : ¬ (false = true))]
theorem rroot {A : Int} (hA : 0 ≤ A ∧ A < 115792089237316195423570985008687907853269984665640564039457584007913129639936) :
    ref04_Root (words4 A) = some (if okR A then words4 (rv A % pw) else List.replicate 4 0, okR A) := by
  have pow1 := rpow (mod_bd' A) E1 (by decide)
  rw [powP_mod] at pow1
  have := rroot_core hA pow1 (rpow (x := 2) (by decide) E2 (by decide))
  rw [← okR_eq, ← rv_eq] at this
  exact this
end Go.Pn
/- Squares have roots modulo p; FieldRoot. -/
namespace Go.Pn
open Go Go.Gw Go.Proofs.Sb.D
theorem euclid {u v : Int} (h : u * v % pw = 0) : u % pw = 0 ∨ v % pw = 0 := by
  have hd : (pN : Int) ∣ u * v := by rw [pN_pw]; exact Int.dvd_of_emod_eq_zero h
  have hn : pN ∣ u.natAbs * v.natAbs := by rw [← Int.natAbs_mul]; exact Int.ofNat_dvd_left.1 hd
  rcases pN_pr.dvd_mul hn with h1 | h1
  · left; have := Int.ofNat_dvd_left.2 h1; rw [pN_pw] at this; exact Int.emod_eq_zero_of_dvd this
  · right; have := Int.ofNat_dvd_left.2 h1; rw [pN_pw] at this; exact Int.emod_eq_zero_of_dvd this
theorem sub_zero_mod {x y : Int} (h : (x - y) % pw = 0) : x % pw = y % pw := (Int.emod_eq_emod_iff_emod_sub_eq_zero).2 h
/-- a number whose square is another one's is it or its other side -/
theorem sq_eq {x y : Int} (h : x * x % pw = y * y % pw) : x % pw = y % pw ∨ x % pw = (0 - y) % pw := by
  have h1 : (x - y) * (x + y) % pw = 0 := by
    have e : (x - y) * (x + y) = x * x - y * y := by grind
    rw [e]; exact (Int.emod_eq_emod_iff_emod_sub_eq_zero).1 h
  rcases euclid h1 with h2 | h2
  · exact .inl (sub_zero_mod h2)
  · right; apply sub_zero_mod
    have : x - (0 - y) = x + y := by omega
    rw [this]; exact h2
def hN : Nat := (pN - 1) / 2
theorem pm_ok1 : pm pN 256 2 hN 1 % pN = pN - 1 := by kernel_rfl
theorem cast_pow (b n m r : Nat) (h : b ^ n % m = r) : (b : Int) ^ n % (m : Int) = (r : Int) := by
  subst h; simp
theorem pm_two (n m k r : Nat) (hk : n < 2 ^ k) (h : pm m k 2 n 1 % m = r) : ((2 : Nat) : Int) ^ n % (m : Int) = (r : Int) := by
  rw [pm_ok m k 2 n 1 hk, Nat.one_mul] at h
  exact cast_pow 2 n m r h
theorem pN1 : ((pN - 1 : Nat) : Int) = pw - 1 := by kernel_rfl
theorem two_half : (2 : Int) ^ hN % pw = pw - 1 := by
  have t := pm_two hN pN 256 (pN - 1) (by decide) pm_ok1
  rw [pN_pw, pN1] at t
  exact t
theorem half_unit {A : Int} (h : A % pw ≠ 0) : A ^ hN % pw = 1 ∨ A ^ hN % pw = (0 - 1) % pw := by
  have f := fermat1P A h
  have e : pN - 1 = hN + hN := by decide
  rw [e, Int.pow_add] at f
  exact sq_eq (x := A ^ hN) (y := 1) (by rw [f]; decide)
theorem e4 : E1 + E1 + (E1 + E1) = hN + 2 := by decide
theorem e2 : E2 + E2 = hN := by decide
theorem rho_sq {A S : Int} (hS : S % pw = A * A % pw) : okR S = true := by
  have hu : S ^ E1 % pw = (A * A) ^ E1 % pw := by rw [← powP_mod, hS, powP_mod]
  have hv : S ^ E1 * S ^ E1 % pw = A ^ hN * (A * A) % pw := by
    rw [Int.mul_emod, hu, ← Int.mul_emod, Int.mul_pow, ← Int.pow_add]
    have : A ^ (E1 + E1) * A ^ (E1 + E1) = A ^ hN * (A * A) := by
      rw [← Int.pow_add, e4, Int.pow_add, Int.pow_succ, Int.pow_succ, Int.pow_zero, Int.one_mul]
    rw [this]
  have key : rho S * rho S % pw = S % pw := by
    rw [rho_eq]; unfold rhoG
    generalize hU : S ^ E1 = u at *
    by_cases h : u * u % pw = S % pw
    · rw [if_pos h]; exact h
    · rw [if_neg h]
      have ss : (2 : Int) ^ E2 * 2 ^ E2 % pw = pw - 1 := by rw [← Int.pow_add, e2]; exact two_half
      generalize (2 : Int) ^ E2 = s at *
      have hA : A % pw ≠ 0 := fun hz => h (by
        have z : A * A % pw = 0 := by rw [Int.mul_emod, hz]; decide
        rw [hv, hS, Int.mul_emod, z, Int.mul_zero]; decide)
      have e : u * s * (u * s) = u * u * (s * s) := by grind
      rw [e, Int.mul_emod, ss, hv, hS]
      rcases half_unit hA with h1 | h1
      · exfalso; apply h; rw [hv, Int.mul_emod, h1, Int.one_mul, modmod, hS]
      · rw [Int.mul_emod (A ^ hN), h1, ← Int.mul_emod]
        have : (0 - 1) * (A * A) % pw * (pw - 1) % pw = (0 - 1) * (A * A) * (pw - 1) % pw := by
          rw [Int.mul_emod, modmod, ← Int.mul_emod]
        rw [this]
        have : (0 - 1) * (A * A) * (pw - 1) = A * A + pw * (-(A * A)) := by grind
        rw [this, Int.add_mul_emod_self_left]
  unfold okR; exact decide_eq_true key
theorem rv_sq {A : Int} (h : okR A = true) : rv A * rv A % pw = A % pw := by
  unfold okR at h
  have h := of_decide_eq_true h
  unfold rv
  generalize rho A = r at *
  split
  · have : (0 - r) * (0 - r) = r * r := by grind
    rw [this]; exact h
  · exact h
theorem rv_even (A : Int) : rv A % pw % 2 = 0 := by
  unfold rv
  generalize rho A = r
  split
  · rename_i ho
    have h1 := mod_bd r
    have e : (0 - r) % pw = pw - r % pw := by
      have h2 : (0 - r) % pw = (pw - r % pw) % pw := by
        have := Int.emod_add_mul_ediv r pw
        have e3 : 0 - r = pw - r % pw + pw * (-(r / pw) - 1) := by grind
        rw [e3, Int.add_mul_emod_self_left]
      rw [h2]; exact Int.emod_eq_of_lt (by omega) (by omega)
    rw [e]
    have hp : pw = 57896044618658097711785492504343953926634992332820282019728792003956564819949 := rfl
    omega
  · omega
end Go.Pn
