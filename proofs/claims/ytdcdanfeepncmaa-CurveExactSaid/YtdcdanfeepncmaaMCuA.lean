/- The group of a twisted Edwards curve (a = -1), over a field that is given by its laws. -/
namespace Go.Cu
/-- what is needed of the field, and of d: -1 is a square, -d is none -/
structure Fld (q : Nat) [NeZero q] where
  dom : ∀ a b : Fin q, a * b = 0 → a = 0 ∨ b = 0
  two : (2 : Fin q) ≠ 0
  i : Fin q
  ii : i * i = -1
  d : Fin q
  ns : ∀ a b : Fin q, a * a = -d * (b * b) → b = 0
  inv : Fin q → Fin q
  inv_ok : ∀ a : Fin q, a ≠ 0 → a * inv a = 1
variable {q : Nat} [NeZero q]
theorem Fld.mul_ne (k : Fld q) {a b : Fin q} (ha : a ≠ 0) (hb : b ≠ 0) : a * b ≠ 0 := fun h => (k.dom a b h).elim ha hb
theorem Fld.cancel (k : Fld q) {a b c : Fin q} (ha : a ≠ 0) (h : a * b = a * c) : b = c := by
  have : a * (b - c) = 0 := by grind
  rcases k.dom _ _ this with h | h
  · exact absurd h ha
  · grind
theorem Fld.one (k : Fld q) : (1 : Fin q) ≠ 0 := fun h => k.two (by grind)
def On (k : Fld q) (x y : Fin q) : Prop := y * y - x * x = 1 + k.d * (x * x) * (y * y)
theorem sq_one (i d x1 y1 x2 y2 e : Fin q) (hii : i * i = -1) (h1 : y1 * y1 - x1 * x1 = 1 + d * (x1 * x1) * (y1 * y1)) (h2 : y2 * y2 - x2 * x2 = 1 + d * (x2 * x2) * (y2 * y2)) (he : d * x1 * x2 * y1 * y2 = e) (hee : e * e = 1) :
    (i * x1 + e * y1) * (i * x1 + e * y1) = -d * ((i * x1 * y1 * (i * x2 + y2)) * (i * x1 * y1 * (i * x2 + y2))) := by grind
theorem sq_two (i d x1 y1 x2 y2 e : Fin q) (hii : i * i = -1) (h1 : y1 * y1 - x1 * x1 = 1 + d * (x1 * x1) * (y1 * y1)) (h2 : y2 * y2 - x2 * x2 = 1 + d * (x2 * x2) * (y2 * y2)) (he : d * x1 * x2 * y1 * y2 = e) (hee : e * e = 1) :
    (i * x1 - e * y1) * (i * x1 - e * y1) = -d * ((i * x1 * y1 * (i * x2 - y2)) * (i * x1 * y1 * (i * x2 - y2))) := by grind
theorem no_e (k : Fld q) {x1 y1 x2 y2 e : Fin q} (h1 : On k x1 y1) (h2 : On k x2 y2) (he : k.d * x1 * x2 * y1 * y2 = e) (hee : e * e = 1) : False := by
  have a := k.ns _ _ (sq_one k.i k.d x1 y1 x2 y2 e k.ii h1 h2 he hee)
  have b := k.ns _ _ (sq_two k.i k.d x1 y1 x2 y2 e k.ii h1 h2 he hee)
  have hii := k.ii
  apply k.two
  generalize k.i = i at *
  generalize k.d = d at *
  have c : i * x1 * y1 * (2 * (i * x2)) = 0 := by grind
  have c2 : x1 * y1 * x2 * 2 = 0 := by grind
  grind
theorem den_p (k : Fld q) {x1 y1 x2 y2 : Fin q} (h1 : On k x1 y1) (h2 : On k x2 y2) : 1 + k.d * x1 * x2 * y1 * y2 ≠ 0 := fun h => no_e k h1 h2 (e := -1) (by grind) (by grind)
theorem den_m (k : Fld q) {x1 y1 x2 y2 : Fin q} (h1 : On k x1 y1) (h2 : On k x2 y2) : 1 - k.d * x1 * x2 * y1 * y2 ≠ 0 := fun h => no_e k h1 h2 (e := 1) (by grind) (by grind)
structure Pt (k : Fld q) where
  x : Fin q
  y : Fin q
  on : On k x y
theorem Pt.ext' {k : Fld q} {P Q : Pt k} (h : P.x = Q.x) (g : P.y = Q.y) : P = Q := by cases P; cases Q; simp at h g; subst h; subst g; rfl
theorem closed (d x1 y1 x2 y2 u v : Fin q) (h1 : y1 * y1 - x1 * x1 = 1 + d * (x1 * x1) * (y1 * y1)) (h2 : y2 * y2 - x2 * x2 = 1 + d * (x2 * x2) * (y2 * y2))
    (hu : u * (1 + d * x1 * x2 * y1 * y2) = x1 * y2 + y1 * x2) (hv : v * (1 - d * x1 * x2 * y1 * y2) = y1 * y2 + x1 * x2) :
    ((1 + d * x1 * x2 * y1 * y2) * (1 - d * x1 * x2 * y1 * y2) * ((1 + d * x1 * x2 * y1 * y2) * (1 - d * x1 * x2 * y1 * y2))) * (v * v - u * u) = ((1 + d * x1 * x2 * y1 * y2) * (1 - d * x1 * x2 * y1 * y2) * ((1 + d * x1 * x2 * y1 * y2) * (1 - d * x1 * x2 * y1 * y2))) * (1 + d * (u * u) * (v * v)) := by
  have e1 : ((1 + d * x1 * x2 * y1 * y2) * (1 - d * x1 * x2 * y1 * y2) * ((1 + d * x1 * x2 * y1 * y2) * (1 - d * x1 * x2 * y1 * y2))) * (v * v - u * u) =
      (1 + d * x1 * x2 * y1 * y2) * (1 + d * x1 * x2 * y1 * y2) * ((v * (1 - d * x1 * x2 * y1 * y2)) * (v * (1 - d * x1 * x2 * y1 * y2))) - (1 - d * x1 * x2 * y1 * y2) * (1 - d * x1 * x2 * y1 * y2) * ((u * (1 + d * x1 * x2 * y1 * y2)) * (u * (1 + d * x1 * x2 * y1 * y2))) := by grind
  have e2 : ((1 + d * x1 * x2 * y1 * y2) * (1 - d * x1 * x2 * y1 * y2) * ((1 + d * x1 * x2 * y1 * y2) * (1 - d * x1 * x2 * y1 * y2))) * (1 + d * (u * u) * (v * v)) =
      (1 + d * x1 * x2 * y1 * y2) * (1 - d * x1 * x2 * y1 * y2) * ((1 + d * x1 * x2 * y1 * y2) * (1 - d * x1 * x2 * y1 * y2)) + d * ((u * (1 + d * x1 * x2 * y1 * y2)) * (u * (1 + d * x1 * x2 * y1 * y2))) * ((v * (1 - d * x1 * x2 * y1 * y2)) * (v * (1 - d * x1 * x2 * y1 * y2))) := by grind
  rw [e1, e2, hu, hv]
  clear e1 e2 hu hv
  grind
def Pt.add {k : Fld q} (P Q : Pt k) : Pt k where
  x := (P.x * Q.y + P.y * Q.x) * k.inv (1 + k.d * P.x * Q.x * P.y * Q.y)
  y := (P.y * Q.y + P.x * Q.x) * k.inv (1 - k.d * P.x * Q.x * P.y * Q.y)
  on := by
    have a := den_p k P.on Q.on; have b := den_m k P.on Q.on
    have ia := k.inv_ok _ a; have ib := k.inv_ok _ b
    have ab := k.mul_ne a b
    exact k.cancel (k.mul_ne ab ab) (closed k.d P.x P.y Q.x Q.y _ _ P.on Q.on (by rw [Fin.mul_comm _ (1 + _)]; grind) (by rw [Fin.mul_comm _ (1 - _)]; grind))
theorem add_x {k : Fld q} (P Q : Pt k) : (P.add Q).x * (1 + k.d * P.x * Q.x * P.y * Q.y) = P.x * Q.y + P.y * Q.x := by
  have ia := k.inv_ok _ (den_p k P.on Q.on)
  show (P.x * Q.y + P.y * Q.x) * k.inv (1 + k.d * P.x * Q.x * P.y * Q.y) * (1 + k.d * P.x * Q.x * P.y * Q.y) = _
  grind
theorem add_y {k : Fld q} (P Q : Pt k) : (P.add Q).y * (1 - k.d * P.x * Q.x * P.y * Q.y) = P.y * Q.y + P.x * Q.x := by
  have ia := k.inv_ok _ (den_m k P.on Q.on)
  show (P.y * Q.y + P.x * Q.x) * k.inv (1 - k.d * P.x * Q.x * P.y * Q.y) * (1 - k.d * P.x * Q.x * P.y * Q.y) = _
  grind
theorem add_uniq {k : Fld q} (P Q S : Pt k) (h : S.x * (1 + k.d * P.x * Q.x * P.y * Q.y) = P.x * Q.y + P.y * Q.x) (g : S.y * (1 - k.d * P.x * Q.x * P.y * Q.y) = P.y * Q.y + P.x * Q.x) : P.add Q = S := by
  apply Pt.ext'
  · exact k.cancel (den_p k P.on Q.on) (by have := add_x P Q; grind)
  · exact k.cancel (den_m k P.on Q.on) (by have := add_y P Q; grind)
theorem add_comm {k : Fld q} (P Q : Pt k) : P.add Q = Q.add P := by
  apply add_uniq
  · have := add_x Q P; grind
  · have := add_y Q P; grind
def Pt.zero (k : Fld q) : Pt k := ⟨0, 1, by unfold On; grind⟩
def Pt.neg {k : Fld q} (P : Pt k) : Pt k := ⟨-P.x, P.y, by have := P.on; unfold On at *; grind⟩
theorem add_zero {k : Fld q} (P : Pt k) : P.add (Pt.zero k) = P := by
  apply add_uniq
  · show P.x * (1 + k.d * P.x * 0 * P.y * 1) = P.x * 1 + P.y * 0; grind
  · show P.y * (1 - k.d * P.x * 0 * P.y * 1) = P.y * 1 + P.x * 0; grind
theorem zero_add {k : Fld q} (P : Pt k) : (Pt.zero k).add P = P := by rw [add_comm, add_zero]
theorem add_neg {k : Fld q} (P : Pt k) : P.add P.neg = Pt.zero k := by
  have := P.on
  unfold On at this
  apply add_uniq
  · show 0 * (1 + k.d * P.x * (-P.x) * P.y * P.y) = P.x * P.y + P.y * (-P.x); grind
  · show 1 * (1 - k.d * P.x * (-P.x) * P.y * P.y) = P.y * P.y + P.x * (-P.x); grind
theorem neg_neg {k : Fld q} (P : Pt k) : P.neg.neg = P := by
  apply Pt.ext'
  · show - -P.x = P.x; grind
  · rfl
theorem neg_add {k : Fld q} (P Q : Pt k) : (P.add Q).neg = P.neg.add Q.neg := by
  apply Eq.symm
  apply add_uniq
  · show (-(P.add Q).x) * (1 + k.d * (-P.x) * (-Q.x) * P.y * Q.y) = (-P.x) * Q.y + P.y * (-Q.x); have := add_x P Q; grind
  · show (P.add Q).y * (1 - k.d * (-P.x) * (-Q.x) * P.y * Q.y) = P.y * Q.y + (-P.x) * (-Q.x); have := add_y P Q; grind
theorem neg_zero {k : Fld q} : (Pt.zero k).neg = Pt.zero k := by
  apply Pt.ext'
  · show -(0 : Fin q) = 0; grind
  · rfl
end Go.Cu
/- Sums of points hang on no order. -/
namespace Go.Cu
variable {q : Nat} [NeZero q]
theorem assocX (d x1 y1 x2 y2 x3 y3 : Fin q) (h1 : y1*y1 - x1*x1 = 1 + d*(x1*x1)*(y1*y1)) (h2 : y2*y2 - x2*x2 = 1 + d*(x2*x2)*(y2*y2)) (h3 : y3*y3 - x3*x3 = 1 + d*(x3*x3)*(y3*y3)) :
    ((x1*y2+y1*x2)*(1 - d*x1*x2*y1*y2)*y3 + (y1*y2+x1*x2)*(1+d*x1*x2*y1*y2)*x3) * ((1+d*x2*x3*y2*y3)*(1-d*x2*x3*y2*y3) + d*x1*y1*(x2*y3+y2*x3)*(y2*y3+x2*x3)) =
    (x1*(y2*y3+x2*x3)*(1+d*x2*x3*y2*y3) + y1*(x2*y3+y2*x3)*(1-d*x2*x3*y2*y3)) * ((1+d*x1*x2*y1*y2)*(1-d*x1*x2*y1*y2) + d*x3*y3*(x1*y2+y1*x2)*(y1*y2+x1*x2)) := by
  grind
theorem assocY (d x1 y1 x2 y2 x3 y3 : Fin q) (h1 : y1*y1 - x1*x1 = 1 + d*(x1*x1)*(y1*y1)) (h2 : y2*y2 - x2*x2 = 1 + d*(x2*x2)*(y2*y2)) (h3 : y3*y3 - x3*x3 = 1 + d*(x3*x3)*(y3*y3)) :
    ((y1*y2+x1*x2)*(1 + d*x1*x2*y1*y2)*y3 + (x1*y2+y1*x2)*(1-d*x1*x2*y1*y2)*x3) * ((1+d*x2*x3*y2*y3)*(1-d*x2*x3*y2*y3) - d*x1*y1*(x2*y3+y2*x3)*(y2*y3+x2*x3)) =
    (y1*(y2*y3+x2*x3)*(1+d*x2*x3*y2*y3) + x1*(x2*y3+y2*x3)*(1-d*x2*x3*y2*y3)) * ((1+d*x1*x2*y1*y2)*(1-d*x1*x2*y1*y2) - d*x3*y3*(x1*y2+y1*x2)*(y1*y2+x1*x2)) := by
  grind
/-- the sum of a sum (u, v), without its denominators -/
theorem twoX (d u v A B X Y x3 y3 s : Fin q) (hu : u * A = X) (hv : v * B = Y) (hs : s * (1 + d * u * x3 * v * y3) = u * y3 + v * x3) : s * (A * B + d * x3 * y3 * X * Y) = X * B * y3 + Y * A * x3 := by
  subst hu; subst hv; grind
theorem twoY (d u v A B X Y x3 y3 t : Fin q) (hu : u * A = X) (hv : v * B = Y) (ht : t * (1 - d * u * x3 * v * y3) = v * y3 + u * x3) : t * (A * B - d * x3 * y3 * X * Y) = Y * A * y3 + X * B * x3 := by
  subst hu; subst hv; grind
theorem denX (d u v A B X Y x3 y3 : Fin q) (hu : u * A = X) (hv : v * B = Y) : A * B * (1 + d * u * x3 * v * y3) = A * B + d * x3 * y3 * X * Y := by subst hu; subst hv; grind
theorem denY (d u v A B X Y x3 y3 : Fin q) (hu : u * A = X) (hv : v * B = Y) : A * B * (1 - d * u * x3 * v * y3) = A * B - d * x3 * y3 * X * Y := by subst hu; subst hv; grind
theorem cross (k : Fld q) {s s' N N' D D' : Fin q} (h : s * D = N) (h' : s' * D' = N') (e : N * D' = N' * D) (hd : D ≠ 0) (hd' : D' ≠ 0) : s = s' := by
  apply k.cancel (k.mul_ne hd hd')
  have : s * D * D' = s' * D' * D := by rw [h, h', e]
  clear e h h' hd hd'
  grind
theorem sameX (x1 y1 X Y A B : Fin q) : x1 * Y * A + y1 * X * B = X * B * y1 + Y * A * x1 := by grind
theorem sameY (x1 y1 X Y A B : Fin q) : y1 * Y * A + x1 * X * B = Y * A * y1 + X * B * x1 := by grind
theorem add_assoc {k : Fld q} (P Q S : Pt k) : (P.add Q).add S = P.add (Q.add S) := by
  have ux := add_x P Q; have uy := add_y P Q
  have wx := add_x Q S; have wy := add_y Q S
  have sx := add_x (P.add Q) S; have sy := add_y (P.add Q) S
  have tx := add_x (Q.add S) P; have ty := add_y (Q.add S) P
  have a := den_p k P.on Q.on; have b := den_m k P.on Q.on
  have a' := den_p k Q.on S.on; have b' := den_m k Q.on S.on
  have c := den_p k (P.add Q).on S.on; have e := den_m k (P.add Q).on S.on
  have c' := den_p k (Q.add S).on P.on; have e' := den_m k (Q.add S).on P.on
  rw [add_comm P (Q.add S)]
  have n1 := k.mul_ne (k.mul_ne a b) c; rw [denX _ _ _ _ _ _ _ _ _ ux uy] at n1
  have n2 := k.mul_ne (k.mul_ne a' b') c'; rw [denX _ _ _ _ _ _ _ _ _ wx wy] at n2
  have m1 := k.mul_ne (k.mul_ne a b) e; rw [denY _ _ _ _ _ _ _ _ _ ux uy] at m1
  have m2 := k.mul_ne (k.mul_ne a' b') e'; rw [denY _ _ _ _ _ _ _ _ _ wx wy] at m2
  apply Pt.ext'
  · refine cross k (twoX _ _ _ _ _ _ _ _ _ _ ux uy sx) (twoX _ _ _ _ _ _ _ _ _ _ wx wy tx) ?_ n1 n2
    have := assocX k.d P.x P.y Q.x Q.y S.x S.y P.on Q.on S.on
    refine Eq.trans this ?_
    congr 1
    exact sameX ..
  · refine cross k (twoY _ _ _ _ _ _ _ _ _ _ ux uy sy) (twoY _ _ _ _ _ _ _ _ _ _ wx wy ty) ?_ m1 m2
    have := assocY k.d P.x P.y Q.x Q.y S.x S.y P.on Q.on S.on
    refine Eq.trans this ?_
    congr 1
    exact sameY ..
def Pt.mul {k : Fld q} : Nat → Pt k → Pt k
  | 0, _ => Pt.zero k
  | n + 1, P => (Pt.mul n P).add P
theorem mul_add {k : Fld q} (m n : Nat) (P : Pt k) : Pt.mul (m + n) P = (Pt.mul m P).add (Pt.mul n P) := by
  induction n with
  | zero => exact (add_zero _).symm
  | succ n ih => show (Pt.mul (m + n) P).add P = _; rw [ih, add_assoc]; rfl
theorem mul_zero {k : Fld q} (n : Nat) : Pt.mul n (Pt.zero k) = Pt.zero k := by
  induction n with
  | zero => rfl
  | succ n ih => show (Pt.mul n _).add _ = _; rw [ih, add_zero]
theorem mul_mul {k : Fld q} (m n : Nat) (P : Pt k) : Pt.mul m (Pt.mul n P) = Pt.mul (m * n) P := by
  induction m with
  | zero => rw [Nat.zero_mul]; rfl
  | succ m ih => show (Pt.mul m _).add _ = _; rw [ih, Nat.succ_mul, mul_add]
theorem add4 {k : Fld q} (A B C D : Pt k) : (A.add B).add (C.add D) = (A.add C).add (B.add D) := by
  rw [add_assoc, ← add_assoc B C D, add_comm B C, add_assoc C B D, ← add_assoc]
theorem mul_dist {k : Fld q} (n : Nat) (P Q : Pt k) : Pt.mul n (P.add Q) = (Pt.mul n P).add (Pt.mul n Q) := by
  induction n with
  | zero => exact (add_zero _).symm
  | succ n ih => show (Pt.mul n _).add _ = ((Pt.mul n P).add P).add ((Pt.mul n Q).add Q); rw [ih, add4]
theorem mul_one {k : Fld q} (P : Pt k) : Pt.mul 1 P = P := zero_add P
end Go.Cu
