/- The numbers modulo p as a field; the curve's d. -/
import Derived.Test.YtdcdanfeepncmaaMCuA
import Derived.Test.YtdcdanfeepncmaaMPnP
import Derived.Test.YtdcdanfeepncmaaMScA
namespace Go.Cu
open Go.Pn
abbrev Fp := Fin pN
instance nz : NeZero pN := ⟨by decide⟩
def _root_.Fin.v {n : Nat} (a : Fin n) : Int := (a.val : Int)
theorem pw_pos : 0 < pw := by decide
theorem mk_lt (x : Int) : (x % pw).toNat < pN := by
  have h1 := Int.emod_nonneg x (show pw ≠ 0 by decide)
  have h2 := Int.emod_lt_of_pos x pw_pos
  rw [← pN_pw] at *; omega
def mk (x : Int) : Fp := ⟨(x % pw).toNat, mk_lt x⟩
theorem mk_val (x : Int) : (mk x).v = x % pw := Int.toNat_of_nonneg (Int.emod_nonneg x (by decide))
theorem fbd (a : Fp) : 0 ≤ a.v ∧ a.v < pw := by
  have := a.isLt
  unfold Fin.v; rw [← pN_pw]; omega
theorem fvh (a : Fp) : a.v % pw = a.v := Int.emod_eq_of_lt (fbd a).1 (fbd a).2
theorem Fp.ext' {a b : Fp} (h : a.v = b.v) : a = b := Fin.ext (by unfold Fin.v at h; omega)
theorem mk_v (a : Fp) : mk a.v = a := Fp.ext' (by rw [mk_val, fvh])
theorem mk_eq {x y : Int} : mk x = mk y ↔ x % pw = y % pw := ⟨fun h => by rw [← mk_val, h, mk_val], fun h => Fp.ext' (by rw [mk_val, mk_val, h])⟩
theorem vadd (a b : Fp) : (a + b).v = (a.v + b.v) % pw := by
  show ((a + b).val : Int) = _
  rw [Fin.val_add, Int.natCast_emod, Int.natCast_add, pN_pw]; rfl
theorem vmul (a b : Fp) : (a * b).v = (a.v * b.v) % pw := by
  show ((a * b).val : Int) = _
  rw [Fin.val_mul, Int.natCast_emod, Int.natCast_mul, pN_pw]; rfl
theorem vsub (a b : Fp) : (a - b).v = (a.v - b.v) % pw := by
  have hb := b.isLt
  show (((pN - b.val + a.val) % pN : Nat) : Int) = _
  rw [Int.natCast_emod, pN_pw]
  have : ((pN - b.val + a.val : Nat) : Int) = a.v - b.v + pw := by unfold Fin.v; rw [← pN_pw]; omega
  rw [this, Int.add_emod_right]
theorem zero_mk : (0 : Fp) = mk 0 := by kernel_rfl
theorem one_mk : (1 : Fp) = mk 1 := by kernel_rfl
theorem mk_add (x y : Int) : mk x + mk y = mk (x + y) := Fp.ext' (by rw [vadd, mk_val, mk_val, mk_val]; exact (Int.add_emod x y pw).symm)
theorem mk_mul (x y : Int) : mk x * mk y = mk (x * y) := Fp.ext' (by rw [vmul, mk_val, mk_val, mk_val]; exact (Int.mul_emod x y pw).symm)
theorem mk_sub (x y : Int) : mk x - mk y = mk (x - y) := Fp.ext' (by rw [vsub, mk_val, mk_val, mk_val]; exact (Int.sub_emod x y pw).symm)
theorem neg_sub0 {q : Nat} [NeZero q] (a : Fin q) : -a = 0 - a := by grind
theorem mk_neg (x : Int) : -mk x = mk (-x) := by rw [neg_sub0, zero_mk, mk_sub]; congr 1; omega
theorem sur (a : Fp) : ∃ x, a = mk x := ⟨a.v, (mk_v a).symm⟩
def dw : Int := 37095705934669439343138083508754565189542113879843219016388785533085940283555
def Dn : Nat := 20800338683988658368647408995589388737092878452977063003340006470870624536394
theorem pm_okD : pm pN 256 Dn hN 1 % pN = pN - 1 := by kernel_rfl
theorem pm_any (b n m k r : Nat) (hk : n < 2 ^ k) (h : pm m k b n 1 % m = r) : (b : Int) ^ n % (m : Int) = (r : Int) := by
  rw [pm_ok m k b n 1 hk, Nat.one_mul] at h
  exact cast_pow b n m r h
theorem D_half : (Dn : Int) ^ hN % pw = pw - 1 := by
  have t := pm_any Dn hN pN 256 (pN - 1) (by decide) pm_okD
  rw [pN_pw, pN1] at t
  exact t
theorem unit_sq {A : Int} (h : A % pw ≠ 0) : (A * A) ^ hN % pw = 1 := by
  rw [Int.mul_pow]
  have hu := half_unit h
  generalize A ^ hN = u at hu ⊢
  rcases hu with hu | hu
  · rw [Int.mul_emod, hu]; decide
  · rw [Int.mul_emod, hu]; decide
theorem ns_int {a b : Int} (h : a * a % pw = (Dn : Int) * (b * b) % pw) : b % pw = 0 := by
  apply Decidable.byContradiction
  intro hb
  have hD : (Dn : Int) % pw ≠ 0 := by decide
  have ha : a % pw ≠ 0 := by
    intro ha
    have : (Dn : Int) * (b * b) % pw = 0 := by rw [← h, Int.mul_emod, ha]; rfl
    rcases euclid this with h1 | h1
    · exact hD h1
    · rcases euclid h1 with h2 | h2 <;> exact hb h2
  have h1 := unit_sq ha
  have h2 := unit_sq hb
  have h3 : (a * a) ^ hN % pw = ((Dn : Int) * (b * b)) ^ hN % pw := by rw [← powP_mod, h, powP_mod]
  rw [h1, Int.mul_pow] at h3
  have h4 := D_half
  generalize (Dn : Int) ^ hN = u at h3 h4
  generalize (b * b) ^ hN = v at h3 h2
  rw [Int.mul_emod, h4, h2] at h3
  exact absurd h3 (by decide)
theorem mk_zero {x : Int} : mk x = 0 ↔ x % pw = 0 := by rw [zero_mk, mk_eq]; rfl
def iw : Int := 19681161376707505956807079304988542015446066515923890162744021073123829784752
theorem two_mk : (2 : Fp) = mk 2 := by kernel_rfl
def K : Fld pN where
  dom a b h := by
    obtain ⟨x, rfl⟩ := sur a; obtain ⟨y, rfl⟩ := sur b
    rw [mk_mul, mk_zero] at h
    rw [mk_zero, mk_zero]; exact euclid h
  two h := by
    rw [two_mk, mk_zero] at h
    exact absurd h (by decide)
  i := mk iw
  ii := by
    rw [one_mk, mk_mul, mk_neg, mk_eq]; decide
  d := mk dw
  ns a b h := by
    obtain ⟨x, rfl⟩ := sur a; obtain ⟨y, rfl⟩ := sur b
    have e : -mk dw = mk (Dn : Int) := by rw [mk_neg, mk_eq]; decide
    rw [e, mk_mul, mk_mul, mk_mul, mk_eq] at h
    exact mk_zero.2 (ns_int h)
  inv a := mk (ivx a.v)
  inv_ok a h := by
    obtain ⟨x, rfl⟩ := sur a
    have hx : x % pw ≠ 0 := fun g => h (mk_zero.2 g)
    rw [mk_val, one_mk, mk_mul, mk_eq, Int.mul_emod, ivx_mod, ← Int.mul_emod, ivx_mul x hx]; decide
theorem K_d : K.d = mk dw := rfl
theorem K_inv (a : Fp) : K.inv a = mk (ivx a.v) := rfl
end Go.Cu
/- Points in four numbers, in the program's words and in the page's: sums and multiples. -/
namespace Go.Cu
open Go Go.Gw Go.Proofs.Sb.D Go.Pn
theorem ext_gen {q : Nat} [NeZero q] {k : Fld q} (P Q : Pt k) (Z1 Z2 E F G H : Fin q) (h1 : Z1 ≠ 0) (h2 : Z2 ≠ 0) (hE : E = 2 * Z1 * Z2 * (P.x * Q.y + P.y * Q.x)) (hH : H = 2 * Z1 * Z2 * (P.y * Q.y + P.x * Q.x))
    (hF : F = 2 * Z1 * Z2 * (1 - k.d * P.x * Q.x * P.y * Q.y)) (hG : G = 2 * Z1 * Z2 * (1 + k.d * P.x * Q.x * P.y * Q.y)) :
    F * G ≠ 0 ∧ E * F = (P.add Q).x * (F * G) ∧ G * H = (P.add Q).y * (F * G) ∧ E * H = (P.add Q).x * (P.add Q).y * (F * G) := by
  have w := k.mul_ne (k.mul_ne k.two h1) h2
  have f := k.mul_ne w (den_m k P.on Q.on); have g := k.mul_ne w (den_p k P.on Q.on)
  rw [← hF] at f; rw [← hG] at g
  have e : E = (P.add Q).x * G := by rw [hE, hG, ← add_x P Q]; exact r1 ..
  have h : H = (P.add Q).y * F := by rw [hH, hF, ← add_y P Q]; exact r1 ..
  refine ⟨k.mul_ne f g, ?_, ?_, ?_⟩
  · rw [e]; exact r2 ..
  · rw [h]; exact r3 ..
  · rw [e, h]; exact r4 ..
where
  r1 (w u a : Fin q) : w * (u * a) = u * (w * a) := by grind
  r2 (u F G : Fin q) : u * G * F = u * (F * G) := by grind
  r3 (v F G : Fin q) : G * (v * F) = v * (F * G) := by grind
  r4 (u v F G : Fin q) : u * G * (v * F) = u * v * (F * G) := by grind
theorem eE {q : Nat} [NeZero q] (x1 y1 z1 x2 y2 z2 : Fin q) : (y1 * z1 + x1 * z1) * (y2 * z2 + x2 * z2) - (y1 * z1 - x1 * z1) * (y2 * z2 - x2 * z2) = 2 * z1 * z2 * (x1 * y2 + y1 * x2) := by grind
theorem eH {q : Nat} [NeZero q] (x1 y1 z1 x2 y2 z2 : Fin q) : (y1 * z1 + x1 * z1) * (y2 * z2 + x2 * z2) + (y1 * z1 - x1 * z1) * (y2 * z2 - x2 * z2) = 2 * z1 * z2 * (y1 * y2 + x1 * x2) := by grind
theorem eF {q : Nat} [NeZero q] (d x1 y1 z1 x2 y2 z2 : Fin q) : (z1 + z1) * z2 - (d + d) * (x1 * y1 * z1) * (x2 * y2 * z2) = 2 * z1 * z2 * (1 - d * x1 * x2 * y1 * y2) := by grind
theorem eG {q : Nat} [NeZero q] (d x1 y1 z1 x2 y2 z2 : Fin q) : (z1 + z1) * z2 + (d + d) * (x1 * y1 * z1) * (x2 * y2 * z2) = 2 * z1 * z2 * (1 + d * x1 * x2 * y1 * y2) := by grind
theorem pF {q : Nat} [NeZero q] (d x1 y1 z1 x2 y2 z2 : Fin q) : (z1 * z2 + z1 * z2) - ((x1 * y1 * z1) * d * (x2 * y2 * z2) + (x1 * y1 * z1) * d * (x2 * y2 * z2)) = 2 * z1 * z2 * (1 - d * x1 * x2 * y1 * y2) := by grind
theorem pG {q : Nat} [NeZero q] (d x1 y1 z1 x2 y2 z2 : Fin q) : (z1 * z2 + z1 * z2) + ((x1 * y1 * z1) * d * (x2 * y2 * z2) + (x1 * y1 * z1) * d * (x2 * y2 * z2)) = 2 * z1 * z2 * (1 + d * x1 * x2 * y1 * y2) := by grind
/-- four numbers that stand for a point -/
def Ext (X Y Z T : Fp) (P : Pt K) : Prop := Z ≠ 0 ∧ X = P.x * Z ∧ Y = P.y * Z ∧ T = P.x * P.y * Z
/-- words that stand for a number modulo p -/
def RF (l : List Int) (a : Fp) : Prop := Rep l a.v
theorem rep_mod {l : List Int} {n : Int} (h : Rep l n) : Rep l (n % pw) := by
  obtain ⟨x0, x1, x2, x3, x4, e, b, v⟩ := h
  exact ⟨x0, x1, x2, x3, x4, e, b, by rw [v, modmod]⟩
theorem rf_of {l : List Int} {n : Int} (h : Rep l n) : RF l (mk n) := by unfold RF; rw [mk_val]; exact rep_mod h
theorem rf_add {a b : List Int} {x y : Fp} (ha : RF a x) (hb : RF b y) : ∃ l, limb_Add a b = some l ∧ RF l (x + y) := by
  obtain ⟨l, e, r⟩ := add_ok ha hb; exact ⟨l, e, by unfold RF; rw [vadd]; exact rep_mod r⟩
theorem rf_sub {a b : List Int} {x y : Fp} (ha : RF a x) (hb : RF b y) : ∃ l, limb_Sub a b = some l ∧ RF l (x - y) := by
  obtain ⟨l, e, r⟩ := sub_ok ha hb; exact ⟨l, e, by unfold RF; rw [vsub]; exact rep_mod r⟩
theorem rf_mul {a b : List Int} {x y : Fp} (ha : RF a x) (hb : RF b y) : ∃ l, limb_Mul a b = some l ∧ RF l (x * y) := by
  obtain ⟨l, e, r⟩ := mul_ok ha hb; exact ⟨l, e, by unfold RF; rw [vmul]; exact rep_mod r⟩
theorem rf_inv {a : List Int} {x : Fp} (ha : RF a x) : ∃ l, limb_Inv a = some l ∧ RF l (K.inv x) := by
  obtain ⟨l, e, r⟩ := linv ha; exact ⟨l, e, by rw [K_inv]; exact rf_of r⟩
theorem rf_zero : ∃ l, limb_Small 0 = some l ∧ RF l 0 := by
  obtain ⟨l, e, r⟩ := small_ok 0 (by decide) (by decide); exact ⟨l, e, by rw [zero_mk]; exact rf_of r⟩
theorem rf_one : ∃ l, limb_Small 1 = some l ∧ RF l 1 := by
  obtain ⟨l, e, r⟩ := small_ok 1 (by decide) (by decide); exact ⟨l, e, by rw [one_mk]; exact rf_of r⟩
theorem fbd' (a : Fp) : 0 ≤ a.v ∧ a.v < 115792089237316195423570985008687907853269984665640564039457584007913129639936 := ⟨(fbd a).1, Int.lt_trans (fbd a).2 (by decide)⟩
theorem wadd (x y : Fp) : ref04_Add (words4 x.v) (words4 y.v) = some (words4 (x + y).v) := by rw [vadd]; exact radd_mod _ _ (fbd' x) (fbd' y)
theorem wsub (x y : Fp) : ref04_Sub (words4 x.v) (words4 y.v) = some (words4 (x - y).v) := by rw [vsub]; exact rsub_mod _ _ (fbd' x) (fbd' y)
theorem wmul (x y : Fp) : ref04_Mul (words4 x.v) (words4 y.v) = some (words4 (x * y).v) := by rw [vmul]; exact rmul _ _ (fbd' x) (fbd' y)
theorem winv (x : Fp) : ref04_Inv (words4 x.v) = some (words4 (K.inv x).v) := by rw [K_inv, mk_val]; exact rinv (fbd' x)
/-- words that stand for a point -/
def LP (a b c e : List Int) (P : Pt K) : Prop := ∃ X Y Z T, RF a X ∧ RF b Y ∧ RF c Z ∧ RF e T ∧ Ext X Y Z T P
def WP (a b c e : List Int) (P : Pt K) : Prop := ∃ X Y Z T : Fp, a = words4 X.v ∧ b = words4 Y.v ∧ c = words4 Z.v ∧ e = words4 T.v ∧ Ext X Y Z T P
theorem l_plus {a b c e a' b' c' e' t : List Int} {P Q : Pt K} (h : LP a b c e P) (g : LP a' b' c' e' Q) (ht : RF t (K.d + K.d)) :
    ∃ r0 r1 r2 r3, curve_plus a b c e a' b' c' e' t = some (r0, r1, r2, r3) ∧ LP r0 r1 r2 r3 (P.add Q) := by
  obtain ⟨X, Y, Z, T, hX, hY, hZ, hT, z1, eX, eY, eT⟩ := h
  obtain ⟨X', Y', Z', T', gX, gY, gZ, gT, z2, fX, fY, fT⟩ := g
  obtain ⟨a1, f1, r1⟩ := rf_sub hY hX
  obtain ⟨a3, f3, r3⟩ := rf_sub gY gX
  obtain ⟨a5, f5, r5⟩ := rf_mul r1 r3
  obtain ⟨a7, f7, r7⟩ := rf_add hY hX
  obtain ⟨a9, f9, r9⟩ := rf_add gY gX
  obtain ⟨a11, f11, r11⟩ := rf_mul r7 r9
  obtain ⟨a13, f13, r13⟩ := rf_mul ht hT
  obtain ⟨a15, f15, r15⟩ := rf_mul r13 gT
  obtain ⟨a17, f17, r17⟩ := rf_add hZ hZ
  obtain ⟨a19, f19, r19⟩ := rf_mul r17 gZ
  obtain ⟨a21, f21, r21⟩ := rf_sub r11 r5
  obtain ⟨a23, f23, r23⟩ := rf_sub r19 r15
  obtain ⟨a25, f25, r25⟩ := rf_add r19 r15
  obtain ⟨a27, f27, r27⟩ := rf_add r11 r5
  obtain ⟨a29, f29, r29⟩ := rf_mul r21 r23
  obtain ⟨a31, f31, r31⟩ := rf_mul r25 r27
  obtain ⟨a33, f33, r33⟩ := rf_mul r23 r25
  obtain ⟨a35, f35, r35⟩ := rf_mul r21 r27
  refine ⟨a29, a31, a33, a35, ?_, _, _, _, _, r29, r31, r33, r35, ?_⟩
  · unfold curve_plus
    rw [f1, Option.bind_some, f3, Option.bind_some, f5, Option.bind_some, f7, Option.bind_some, f9, Option.bind_some, f11, Option.bind_some, f13, Option.bind_some, f15, Option.bind_some, f17, Option.bind_some, f19, Option.bind_some,
      f21, Option.bind_some, f23, Option.bind_some, f25, Option.bind_some, f27, Option.bind_some, f29, Option.bind_some, f31, Option.bind_some, f33, Option.bind_some, f35, Option.bind_some]
  · subst eX; subst eY; subst eT; subst fX; subst fY; subst fT
    exact ext_gen P Q Z Z' _ _ _ _ z1 z2 (eE ..) (eH ..) (eF ..) (eG ..)
theorem w_plus {a b c e a' b' c' e' t : List Int} {P Q : Pt K} (h : WP a b c e P) (g : WP a' b' c' e' Q) (ht : t = words4 K.d.v) :
    ∃ r0 r1 r2 r3, ref04_plus a b c e a' b' c' e' t = some (r0, r1, r2, r3) ∧ WP r0 r1 r2 r3 (P.add Q) := by
  obtain ⟨X, Y, Z, T, rfl, rfl, rfl, rfl, z1, eX, eY, eT⟩ := h
  obtain ⟨X', Y', Z', T', rfl, rfl, rfl, rfl, z2, fX, fY, fT⟩ := g
  subst ht
  refine ⟨words4 (((Y + X) * (Y' + X') - (Y - X) * (Y' - X')) * ((Z * Z' + Z * Z') - (T * K.d * T' + T * K.d * T'))).v, words4 (((Z * Z' + Z * Z') + (T * K.d * T' + T * K.d * T')) * ((Y + X) * (Y' + X') + (Y - X) * (Y' - X'))).v, words4 (((Z * Z' + Z * Z') - (T * K.d * T' + T * K.d * T')) * ((Z * Z' + Z * Z') + (T * K.d * T' + T * K.d * T'))).v, words4 (((Y + X) * (Y' + X') - (Y - X) * (Y' - X')) * ((Y + X) * (Y' + X') + (Y - X) * (Y' - X'))).v, ?_, _, _, _, _, rfl, rfl, rfl, rfl, ?_⟩
  · unfold ref04_plus
    rw [wsub, Option.bind_some, wsub, Option.bind_some, wmul, Option.bind_some, wadd, Option.bind_some, wadd, Option.bind_some, wmul, Option.bind_some, wmul, Option.bind_some, wmul, Option.bind_some, wadd, Option.bind_some, wmul, Option.bind_some,
      wadd, Option.bind_some, wsub, Option.bind_some, wsub, Option.bind_some, wadd, Option.bind_some, wadd, Option.bind_some, wmul, Option.bind_some, wmul, Option.bind_some, wmul, Option.bind_some, wmul, Option.bind_some]
  · subst eX; subst eY; subst eT; subst fX; subst fY; subst fT
    exact ext_gen P Q Z Z' _ _ _ _ z1 z2 (eE ..) (eH ..) (pF ..) (pG ..)
theorem zE : Ext 0 1 1 0 (Pt.zero K) := ⟨K.one, by show (0 : Fp) = 0 * 1; grind, by show (1 : Fp) = 1 * 1; grind, by show (0 : Fp) = 0 * 1 * 1; grind⟩
theorem l_none : ∃ r0 r1 r2 r3, curve_none = some (r0, r1, r2, r3) ∧ LP r0 r1 r2 r3 (Pt.zero K) := by
  obtain ⟨a, f, r⟩ := rf_zero; obtain ⟨b, g, s⟩ := rf_one
  refine ⟨a, b, b, a, ?_, _, _, _, _, r, s, s, r, zE⟩
  unfold curve_none
  rw [f, Option.bind_some, g, Option.bind_some, Option.bind_some, Option.bind_some]
theorem w_zero : ∃ r0 r1 r2 r3, ref04_zero = some (r0, r1, r2, r3) ∧ WP r0 r1 r2 r3 (Pt.zero K) :=
  ⟨_, _, _, _, rfl, 0, 1, 1, 0, by kernel_rfl, by kernel_rfl, by kernel_rfl, by kernel_rfl, zE⟩
theorem bend_ok : ∃ l, curve_bend = some l ∧ RF l K.d := by
  have hb : Bytes32 [163, 120, 89, 19, 202, 77, 235, 117, 171, 216, 65, 65, 77, 10, 112, 0, 152, 232, 121, 119, 121, 64, 199, 140, 115, 254, 111, 43, 238, 108, 3, 82] := ⟨rfl, by decide⟩
  obtain ⟨l, e, r⟩ := of_ok hb
  refine ⟨l, ?_, ?_⟩
  · unfold curve_bend; rw [e]; rfl
  · have : leV [163, 120, 89, 19, 202, 77, 235, 117, 171, 216, 65, 65, 77, 10, 112, 0, 152, 232, 121, 119, 121, 64, 199, 140, 115, 254, 111, 43, 238, 108, 3, 82] = dw := by decide
    rw [this] at r; rw [K_d]; exact rf_of r
theorem twice_ok {β : Type} (f : List Int → Option β) : ∃ l, ((curve_bend).bind fun a7 => (curve_bend).bind fun a9 => (limb_Add a7 a9).bind f) = f l ∧ RF l (K.d + K.d) := by
  obtain ⟨l, e, r⟩ := bend_ok
  obtain ⟨m, g, s⟩ := rf_add r r
  exact ⟨m, by rw [e, Option.bind_some, Option.bind_some, g, Option.bind_some], s⟩
theorem mul_half {P : Pt K} (E j : Nat) : Pt.mul (E / 2 ^ j) P = (if E / 2 ^ j % 2 = 1 then ((Pt.mul (E / 2 ^ (j + 1)) P).add (Pt.mul (E / 2 ^ (j + 1)) P)).add P else (Pt.mul (E / 2 ^ (j + 1)) P).add (Pt.mul (E / 2 ^ (j + 1)) P)) := by
  have h := half_exp E j
  generalize E / 2 ^ (j + 1) = q at *
  generalize E / 2 ^ j = e at *
  split
  · rename_i hb
    have : e = q + q + 1 := by omega
    rw [this, mul_add, mul_add, mul_one]
  · have : e = q + q := by omega
    rw [this, mul_add]
theorem l_times_loop {p0 p1 p2 p3 t : List Int} {P : Pt K} (hp : LP p0 p1 p2 p3 P) (ht : RF t (K.d + K.d)) (E : Nat) : ∀ j : Nat, j ≤ 256 → ∀ m0 m1 m2 m3, LP m0 m1 m2 m3 (Pt.mul (E / 2 ^ j) P) →
    ∃ r0 r1 r2 r3, curve_times_l0 (leB 32 E) p0 p1 p2 p3 t (j + 1) m0 m1 m2 m3 ((j : Int) - 1) = some (r0, r1, r2, r3) ∧ LP r0 r1 r2 r3 (Pt.mul E P) := by
  intro j; induction j with
  | zero =>
    intro _ m0 m1 m2 m3 hm
    refine ⟨m0, m1, m2, m3, ?_, by simpa using hm⟩
    rw [curve_times_l0, if_neg (by decide)]
  | succ j ih =>
    intro hj m0 m1 m2 m3 hm
    have e1 : ((j + 1 : Nat) : Int) - 1 = (j : Int) := by omega
    obtain ⟨r0, r1, r2, r3, f2, hr⟩ := l_plus hm hm ht
    have d1 : IntKind.i64.wrap ((j : Int).tdiv 8) = ((j / 8 : Nat) : Int) := by
      rw [Int.tdiv_eq_ediv_of_nonneg (by omega), IntWalk.i64_in _ (by omega)]; omega
    have d2 : (j : Int).tmod 8 = ((j % 8 : Nat) : Int) := by rw [Int.tmod_eq_emod_of_nonneg (by omega)]; omega
    have d3 : IntKind.i64.wrap ((j : Int) - 1) = (j : Int) - 1 := IntWalk.i64_in _ (by omega)
    rw [e1, curve_times_l0, if_pos (by simp), f2, Option.bind_some]
    simp only []
    rw [d1, d2, d3, if_pos (by omega), if_pos (by omega), Int.toNat_natCast, leB_getD 32 _ _ (by omega), bit8, bit_nat]
    by_cases hb : E / 2 ^ j % 2 = 1
    · rw [if_pos (decide_eq_true hb)]
      obtain ⟨s0, s1, s2, s3, f3, hs⟩ := l_plus hr hp ht
      rw [f3, Option.bind_some]
      refine ih (by omega) s0 s1 s2 s3 ?_
      rw [mul_half, if_pos hb]; exact hs
    · rw [decide_eq_false hb, if_neg (by decide)]
      refine ih (by omega) r0 r1 r2 r3 ?_
      rw [mul_half, if_neg hb]; exact hr
theorem l_times {p0 p1 p2 p3 : List Int} {P : Pt K} (hp : LP p0 p1 p2 p3 P) (E : Nat) (hE : E < 2 ^ 256) : ∃ r0 r1 r2 r3, curve_times (leB 32 E) p0 p1 p2 p3 = some (r0, r1, r2, r3) ∧ LP r0 r1 r2 r3 (Pt.mul E P) := by
  obtain ⟨o0, o1, o2, o3, fo, ho⟩ := l_none
  unfold curve_times
  rw [fo, Option.bind_some]
  simp only []
  obtain ⟨t, e, ht⟩ := twice_ok fun a11 => (curve_times_l0 (leB 32 E) p0 p1 p2 p3 a11 (((255 : Int) - (0 : Int) + 1).toNat + 1) o0 o1 o2 o3 (255 : Int)).bind (fun (m18, m19, m20, m21) => some (m18, m19, m20, m21))
  obtain ⟨r0, r1, r2, r3, f, hr⟩ := l_times_loop hp ht E 256 (Nat.le_refl _) o0 o1 o2 o3 (by rw [Nat.div_eq_of_lt hE]; exact ho)
  have f' : curve_times_l0 (leB 32 E) p0 p1 p2 p3 t (((255 : Int) - (0 : Int) + 1).toNat + 1) o0 o1 o2 o3 (255 : Int) = some (r0, r1, r2, r3) := f
  refine ⟨r0, r1, r2, r3, e.trans ?_, hr⟩
  rw [f', Option.bind_some]
theorem w_times_loop {p0 p1 p2 p3 t : List Int} {P : Pt K} (hp : WP p0 p1 p2 p3 P) (ht : t = words4 K.d.v) (E : Nat) : ∀ j : Nat, j ≤ 256 → ∀ m0 m1 m2 m3, WP m0 m1 m2 m3 (Pt.mul (E / 2 ^ j) P) →
    ∃ r0 r1 r2 r3, ref04_multiple_l0 (words4 E) p0 p1 p2 p3 t (j + 1) m0 m1 m2 m3 ((j : Int) - 1) = some (r0, r1, r2, r3) ∧ WP r0 r1 r2 r3 (Pt.mul E P) := by
  intro j; induction j with
  | zero =>
    intro _ m0 m1 m2 m3 hm
    refine ⟨m0, m1, m2, m3, ?_, by simpa using hm⟩
    rw [ref04_multiple_l0, if_neg (by decide)]
  | succ j ih =>
    intro hj m0 m1 m2 m3 hm
    have e1 : ((j + 1 : Nat) : Int) - 1 = (j : Int) := by omega
    obtain ⟨r0, r1, r2, r3, f2, hr⟩ := w_plus hm hm ht
    have d1 : IntKind.i64.wrap ((j : Int).tdiv 64) = ((j / 64 : Nat) : Int) := by
      rw [Int.tdiv_eq_ediv_of_nonneg (by omega), IntWalk.i64_in _ (by omega)]; omega
    have d2 : IntKind.u64.wrap ((j : Int).tmod 64) = ((j % 64 : Nat) : Int) := by rw [Int.tmod_eq_emod_of_nonneg (by omega), w64]; omega
    have d3 : IntKind.i64.wrap ((j : Int) - 1) = (j : Int) - 1 := IntWalk.i64_in _ (by omega)
    rw [e1, ref04_multiple_l0, if_pos (by simp), f2, Option.bind_some]
    simp only []
    rw [d1, d2, d3, if_pos (by omega), if_pos (by omega), Int.toNat_natCast, words4_get _ _ (by omega), Go.Pn.bit64, bit_nat]
    by_cases hb : E / 2 ^ j % 2 = 1
    · rw [if_pos (decide_eq_true hb)]
      obtain ⟨s0, s1, s2, s3, f3, hs⟩ := w_plus hr hp ht
      rw [f3, Option.bind_some]
      refine ih (by omega) s0 s1 s2 s3 ?_
      rw [mul_half, if_pos hb]; exact hs
    · rw [decide_eq_false hb, if_neg (by decide)]
      refine ih (by omega) r0 r1 r2 r3 ?_
      rw [mul_half, if_neg hb]; exact hr
end Go.Cu
/- The bytes of a number, and their highest bit. -/
namespace Go.Cu
open Go Go.Gw Go.Proofs.Sb.D Go.Pn
abbrev Hb : Int := 57896044618658097711785492504343953926634992332820282019728792003956564819968
set_option maxRecDepth 100000 in
theorem b_and : ∀ x : Fin 256, band .u8 (x.val : Int) 127 = (x.val : Int) % 128 := by decide
set_option maxRecDepth 100000 in
theorem b_or : ∀ x : Fin 128, bor .u8 (x.val : Int) 128 = (x.val : Int) + 128 := by decide
set_option maxRecDepth 100000 in
theorem b_shr : ∀ x : Fin 256, shr .u8 (x.val : Int) 7 = (x.val : Int) / 128 := by decide
set_option maxRecDepth 100000 in
theorem b_xor : ∀ x : Fin 256, bxor .u8 (x.val : Int) 128 = if (x.val : Int) < 128 then (x.val : Int) + 128 else (x.val : Int) - 128 := by decide
theorem b_and' (x : Int) (h : 0 ≤ x ∧ x < 256) : band .u8 x 127 = x % 128 := by
  have := b_and ⟨x.toNat, by omega⟩; simp only [Int.toNat_of_nonneg h.1] at this; exact this
theorem b_or' (x : Int) (h : 0 ≤ x ∧ x < 128) : bor .u8 x 128 = x + 128 := by
  have := b_or ⟨x.toNat, by omega⟩; simp only [Int.toNat_of_nonneg h.1] at this; exact this
theorem b_shr' (x : Int) (h : 0 ≤ x ∧ x < 256) : shr .u8 x 7 = x / 128 := by
  have := b_shr ⟨x.toNat, by omega⟩; simp only [Int.toNat_of_nonneg h.1] at this; exact this
theorem b_xor' (x : Int) (h : 0 ≤ x ∧ x < 256) : bxor .u8 x 128 = if x < 128 then x + 128 else x - 128 := by
  have := b_xor ⟨x.toNat, by omega⟩; simp only [Int.toNat_of_nonneg h.1] at this; exact this
theorem leB_snoc (n : Nat) (v : Int) : leB (n + 1) v = leB n v ++ [v / 2 ^ (8 * n) % 256] := by
  unfold leB; rw [List.range_succ, List.map_append]; rfl
theorem leB_len (n : Nat) (v : Int) : (leB n v).length = n := (leB_bytes n v).1
theorem p248 : (2 : Int) ^ (8 * 31) = 452312848583266388373324160190187140051835877600158453279131187530910662656 := by decide
theorem leB31 (v : Int) : leB 32 v = leB 31 v ++ [v / 452312848583266388373324160190187140051835877600158453279131187530910662656 % 256] := by rw [leB_snoc 31, p248]
theorem get31 (v : Int) : (leB 32 v).getD 31 0 = v / 452312848583266388373324160190187140051835877600158453279131187530910662656 % 256 := by
  rw [leB_getD 32 _ 31 (by decide), p248]
theorem set31 (v b : Int) : (leB 32 v).set 31 b = leB 31 v ++ [b] := by
  rw [leB31, List.set_append, if_neg (by rw [leB_len]; decide), leB_len]; rfl
theorem leB31_low (v : Int) : leB 31 (v % Hb) = leB 31 v := by
  unfold leB
  apply List.map_congr_left
  intro i hi
  have hi := List.mem_range.1 hi
  have h := part_of v 1 (2 ^ (8 * i)) Hb 256 (by decide) (Int.pow_pos (by decide)) ⟨2 ^ (247 - 8 * i), by
    have e : (256 : Int) = 2 ^ 8 := by decide
    have f : Hb = 2 ^ 255 := by decide
    rw [e, f, ← Int.pow_add, ← Int.pow_add]
    congr 1; omega⟩
  rw [Int.ediv_one, Int.one_mul] at h
  exact h
theorem low31 (v : Int) : (leB 32 v).set 31 (band .u8 ((leB 32 v).getD 31 0) 127) = leB 32 (v % Hb) := by
  rw [set31, get31, b_and' _ (by omega), leB31 (v % Hb), leB31_low]
  congr 2; unfold Hb; omega
theorem top31 (v : Int) (h : 0 ≤ v ∧ v < 115792089237316195423570985008687907853269984665640564039457584007913129639936) : shr .u8 ((leB 32 v).getD 31 0) 7 = v / Hb := by
  rw [get31, b_shr' _ (by omega)]; unfold Hb; omega
theorem ge31 (v : Int) (h : 0 ≤ v ∧ v < 115792089237316195423570985008687907853269984665640564039457584007913129639936) : decide ((leB 32 v).getD 31 0 ≥ 128) = decide (v / Hb = 1) := by
  rw [get31]; apply decide_eq_decide.2; unfold Hb; omega
theorem or31 (v : Int) (h : 0 ≤ v ∧ v < Hb) : (leB 32 v).set 31 (bor .u8 ((leB 32 v).getD 31 0) 128) = leB 32 (v + Hb) := by
  have e : (v + Hb) % Hb = v := by unfold Hb at *; omega
  rw [set31, get31, b_or' _ (by unfold Hb at h; omega), leB31 (v + Hb), ← leB31_low (v + Hb), e]
  congr 2; unfold Hb at *; omega
theorem xor31 (v : Int) (h : 0 ≤ v ∧ v < 115792089237316195423570985008687907853269984665640564039457584007913129639936) : (leB 32 v).set 31 (bxor .u8 ((leB 32 v).getD 31 0) 128) = leB 32 (if v < Hb then v + Hb else v - Hb) := by
  have e : (if v < Hb then v + Hb else v - Hb) % Hb = v % Hb := by unfold Hb at *; split <;> omega
  rw [set31, get31, b_xor' _ (by omega), leB31 (if v < Hb then v + Hb else v - Hb), ← leB31_low (if v < Hb then v + Hb else v - Hb), e, leB31_low]
  congr 2; unfold Hb at *; split <;> split <;> omega
theorem leB_leV {b : List Int} (h : Bytes32 b) : leB 32 (leV b) = b := by
  have e := map_getD b
  rw [h.1] at e
  conv => rhs; rw [← e]
  unfold leB
  apply List.map_congr_left
  intro i hi
  have hi := List.mem_range.1 hi
  rw [Go.Sc.byte_at b i h.2 (by rw [h.1]; exact hi), Go.Sc.p256]
end Go.Cu
/- Points as bytes: packing and unpacking. -/
namespace Go.Cu
open Go Go.Gw Go.Proofs.Sb.D Go.Pn
/-- the square of the x that belongs to a y -/
def AF (y : Fp) : Fp := (y * y - 1) * K.inv (K.d * (y * y) + 1)
theorem den1 {q : Nat} [NeZero q] (d y : Fin q) (h : d * (y * y) + 1 = 0) : 1 * 1 = -d * (y * y) := by grind
theorem den2 {q : Nat} [NeZero q] (d : Fin q) (h : d * (0 * 0) + 1 = 0) : (1 : Fin q) = 0 := by grind
theorem den_y (y : Fp) : K.d * (y * y) + 1 ≠ 0 := by
  intro h
  have h0 := K.ns 1 y (den1 _ _ h)
  rw [h0] at h
  exact K.one (den2 _ h)
theorem AF_mul (y : Fp) : AF y * (K.d * (y * y) + 1) = y * y - 1 := by
  have h := K.inv_ok _ (den_y y)
  unfold AF
  generalize K.inv (K.d * (y * y) + 1) = i at *
  generalize K.d * (y * y) + 1 = e at *
  grind
theorem on_of {x y : Fp} (h : x * x = AF y) : On K x y := by
  have a := AF_mul y
  rw [← h] at a
  unfold On
  generalize K.d = d at *
  grind
theorem AF_of {x y : Fp} (h : On K x y) : AF y = x * x := by
  have a := AF_mul y
  unfold On at h
  apply K.cancel (den_y y)
  generalize AF y = f at *
  generalize K.d = d at *
  grind
def xd (s : Int) (A : Fp) : Fp := mk (if s = 1 then 0 - rv A.v else rv A.v)
theorem rv_ok {A : Fp} (h : okR A.v = true) : mk (rv A.v) * mk (rv A.v) = A := by
  rw [mk_mul]; exact (mk_eq.2 (rv_sq h)).trans (mk_v A)
theorem xd_ok (s : Int) {A : Fp} (h : okR A.v = true) : xd s A * xd s A = A := by
  have e := rv_ok h
  unfold xd
  split
  · have : mk (0 - rv A.v) = -mk (rv A.v) := by rw [mk_neg]; congr 1; omega
    rw [this]
    generalize mk (rv A.v) = r at *
    grind
  · exact e
def good (v : Int) : Bool := decide (v % Hb < pw) && okR (AF (mk (v % Hb))).v && !(decide (v / Hb = 1) && decide (rv (AF (mk (v % Hb))).v % pw = 0))
theorem good_ok {v : Int} (h : good v = true) : okR (AF (mk (v % Hb))).v = true := by
  unfold good at h
  rw [Bool.and_eq_true, Bool.and_eq_true] at h
  exact h.1.2
def pt (v : Int) (h : good v = true) : Pt K := ⟨xd (v / Hb) (AF (mk (v % Hb))), mk (v % Hb), on_of (xd_ok _ (good_ok h))⟩
/-- what bytes are a point, and which -/
def dec (v : Int) : Option (Pt K) := if h : good v = true then some (pt v h) else none
def encV (P : Pt K) : Int := P.y.v + P.x.v % 2 * Hb
def enc (P : Pt K) : List Int := leB 32 (encV P)
theorem encV_bd (P : Pt K) : 0 ≤ encV P ∧ encV P < 115792089237316195423570985008687907853269984665640564039457584007913129639936 := by
  have h := fbd P.y
  unfold encV Hb; unfold pw at h; omega
theorem encV_low (P : Pt K) : encV P % Hb = P.y.v := by
  have h := fbd P.y
  unfold encV Hb; unfold pw at h; omega
theorem encV_top (P : Pt K) : encV P / Hb = P.x.v % 2 := by
  have h := fbd P.y
  unfold encV Hb; unfold pw at h; omega
theorem bytes_enc (P : Pt K) : Bytes32 (enc P) := leB_bytes 32 _
theorem root_of (P : Pt K) : okR (AF P.y).v = true ∧ (rv (AF P.y).v % pw = P.x.v ∨ rv (AF P.y).v % pw = (0 - P.x.v) % pw) := by
  have h := AF_of P.on
  have hv : (AF P.y).v % pw = P.x.v * P.x.v % pw := by rw [h, vmul, modmod]
  have ok := rho_sq hv
  refine ⟨ok, ?_⟩
  have e := rv_sq ok
  rw [hv] at e
  rcases sq_eq e with g | g
  · left; rw [g, (fvh P.x)]
  · exact .inr g
theorem negmod (z p : Int) (h : 0 < z ∧ z < p) : (0 - z) % p = p - z := by
  rw [← Int.add_emod_right, Int.emod_eq_of_lt (by omega) (by omega)]; omega
theorem par' (x ρ p : Int) (hp : p % 2 = 1) (b : 0 ≤ x ∧ x < p) (bρ : 0 ≤ ρ ∧ ρ < p) (ev : ρ % 2 = 0) (h : ρ = x ∨ ρ = (0 - x) % p) : (if x % 2 = 1 then (0 - ρ) % p else ρ) = x ∧ (x % 2 = 1 → ρ ≠ 0) := by
  by_cases hx : x = 0
  · subst hx
    rcases h with h | h
    · subst h; simp
    · rw [show (0 - (0 : Int)) = 0 from rfl, Int.zero_emod] at h; subst h; simp
  · rcases h with h | h
    · subst h
      rw [if_neg (by omega)]
      exact ⟨rfl, by omega⟩
    · rw [negmod x p (by omega)] at h
      subst h
      have hx1 : x % 2 = 1 := by omega
      rw [if_pos hx1, negmod (p - x) p (by omega)]
      exact ⟨by omega, by omega⟩
theorem par (x r : Int) (b : 0 ≤ x ∧ x < pw) (ev : r % pw % 2 = 0) (h : r % pw = x ∨ r % pw = (0 - x) % pw) : (if x % 2 = 1 then 0 - r else r) % pw = x ∧ (x % 2 = 1 → r % pw ≠ 0) := by
  have k := par' x (r % pw) pw (by decide) b (mod_bd r) ev h
  refine ⟨?_, k.2⟩
  have e := Int.sub_emod_emod 0 r pw
  have k1 := k.1
  by_cases hx : x % 2 = 1
  · rw [if_pos hx] at k1 ⊢
    rw [← e]; exact k1
  · rw [if_neg hx] at k1 ⊢
    exact k1
theorem xd_enc (P : Pt K) : xd (P.x.v % 2) (AF P.y) = P.x ∧ (P.x.v % 2 = 1 → rv (AF P.y).v % pw ≠ 0) :=
  have key := par P.x.v (rv (AF P.y).v) (fbd P.x) (rv_even _) (root_of P).2
  ⟨Fp.ext' (by unfold xd; rw [mk_val]; exact key.1), key.2⟩
theorem dec_enc (P : Pt K) : dec (encV P) = some P := by
  have hy : mk (encV P % Hb) = P.y := by rw [encV_low]; exact mk_v _
  have hg : good (encV P) = true := by
    unfold good
    rw [hy, encV_low, encV_top, decide_eq_true (fbd P.y).2, (root_of P).1]
    have := (xd_enc P).2
    by_cases h : P.x.v % 2 = 1
    · rw [decide_eq_true h, decide_eq_false (this h)]; rfl
    · rw [decide_eq_false h]; rfl
  have hx : xd (encV P / Hb) (AF (mk (encV P % Hb))) = P.x := by rw [hy, encV_top]; exact (xd_enc P).1
  have e : pt (encV P) hg = P := Pt.ext' hx hy
  unfold dec
  rw [dif_pos hg, e]
theorem dec_xy {v : Int} {P : Pt K} (h : dec v = some P) : good v = true ∧ P.x = xd (v / Hb) (AF (mk (v % Hb))) ∧ P.y = mk (v % Hb) := by
  unfold dec at h
  split at h
  · rename_i g
    have := Option.some.inj h
    subst this
    exact ⟨g, rfl, rfl⟩
  · exact absurd h (by simp)
end Go.Cu
/- The program's unpacking and packing, and the page's. -/
namespace Go.Cu
open Go Go.Gw Go.Proofs.Sb.D Go.Pn
theorem leB_inj {u v : Int} (hu : 0 ≤ u ∧ u < 115792089237316195423570985008687907853269984665640564039457584007913129639936) (hv : 0 ≤ v ∧ v < 115792089237316195423570985008687907853269984665640564039457584007913129639936) : leB 32 u = leB 32 v ↔ u = v := by
  constructor
  · intro h
    have := congrArg leV h
    rw [Go.Sc.leV_lb u hu, Go.Sc.leV_lb v hv] at this
    exact this
  · exact fun h => by rw [h]
theorem rho_rv (A : Int) : rho A % pw = 0 ↔ rv A % pw = 0 := by
  unfold rv
  split
  · rw [show (0 - rho A) = -rho A by omega]
    constructor
    · intro h; exact Int.emod_eq_zero_of_dvd (Int.dvd_neg.2 (Int.dvd_of_emod_eq_zero h))
    · intro h; exact Int.emod_eq_zero_of_dvd (Int.dvd_neg.1 (Int.dvd_of_emod_eq_zero h))
  · exact Iff.rfl
theorem xd_rho (s : Int) (A : Fp) : xd s A = mk (if ((decide (rho A.v % pw % 2 = 1)) == (s == 1)) = true then rho A.v else 0 - rho A.v) := by
  unfold xd rv
  by_cases hs : s = 1 <;> by_cases ho : rho A.v % pw % 2 = 1
  · rw [if_pos hs, if_pos ho, if_pos (by rw [decide_eq_true ho, hs]; rfl)]; congr 1; omega
  · rw [if_pos hs, if_neg ho, if_neg (by rw [decide_eq_false ho, hs]; decide)]
  · rw [if_neg hs, if_pos ho, if_neg (by rw [decide_eq_true ho, beq_eq_false_iff_ne.2 hs]; decide)]
  · rw [if_neg hs, if_neg ho, if_pos (by rw [decide_eq_false ho, beq_eq_false_iff_ne.2 hs]; rfl)]
theorem tail_ok {a24 a1 : List Int} {A y : Fp} (s : Int) (c : Bool) (hc : c = (s == 1)) (h : Rep a24 (rho A.v)) (hy : RF a1 y) :
    ∃ m a44 a46, ((limb_N_Odd a24).bind (fun b36 => (show Option (List Int) from if (!(b36 == c)) = true then (limb_Small (0 : Int)).bind (fun a40 => (limb_Sub a40 a24).bind (fun a42 => some a42)) else some a24).bind (fun m38 => (limb_Small (1 : Int)).bind (fun a44 => (limb_Mul m38 a1).bind (fun a46 => some (m38, a1, a44, a46, true)))))) = some (m, a1, a44, a46, true) ∧
      RF m (xd s A) ∧ RF a44 1 ∧ RF a46 (xd s A * y) := by
  obtain ⟨z, fz, rz⟩ := rf_zero
  obtain ⟨o, fo, ro⟩ := rf_one
  rw [lodd h, Option.bind_some]
  have hx := xd_rho s A
  rw [← hc] at hx
  by_cases hk : (decide (rho A.v % pw % 2 = 1) == c) = true
  · rw [if_pos hk] at hx
    have hm : RF a24 (xd s A) := by rw [hx]; exact rf_of h
    obtain ⟨l, f, r⟩ := rf_mul hm hy
    refine ⟨a24, o, l, ?_, hm, ro, r⟩
    rw [hk]
    simp only [Bool.not_true, Bool.false_eq_true, if_false, Option.bind_some, fo, f]
  · rw [if_neg hk] at hx
    obtain ⟨n, fn, rn⟩ := rf_sub rz (rf_of h)
    have hm : RF n (xd s A) := by
      rw [hx]
      have e : (0 : Fp) - mk (rho A.v) = mk (0 - rho A.v) := by rw [zero_mk, mk_sub]
      rw [← e]; exact rn
    obtain ⟨l, f, r⟩ := rf_mul hm hy
    refine ⟨n, o, l, ?_, hm, ro, r⟩
    have hk' : (decide (rho A.v % pw % 2 = 1) == c) = false := by simpa using hk
    rw [hk']
    simp only [Bool.not_false, if_true, Option.bind_some, fz, fn, fo, f]
theorem ext_one {X Y Z T : Fp} {P : Pt K} (hX : X = P.x) (hY : Y = P.y) (hZ : Z = 1) (hT : T = P.x * P.y) : Ext X Y Z T P := by
  subst hX; subst hY; subst hZ; subst hT
  exact ⟨K.one, (CommRing_one ..).symm, (CommRing_one ..).symm, (CommRing_one ..).symm⟩
where CommRing_one (a : Fp) : a * 1 = a := by grind
theorem dec_none {v : Int} (h : good v = false) : dec v = none := by unfold dec; rw [dif_neg (by rw [h]; decide)]
theorem dec_some {v : Int} (h : good v = true) : dec v = some (pt v h) := by unfold dec; rw [dif_pos h]
theorem z0 : (0 : Fp).v % pw = 0 := by kernel_rfl
theorem l_unp (v : Int) (hv : 0 ≤ v ∧ v < 115792089237316195423570985008687907853269984665640564039457584007913129639936) :
    (good v = false ∧ ∃ r0 r1 r2 r3, curve_unpacked (leB 32 v) = some (r0, r1, r2, r3, false)) ∨ ∃ h : good v = true, ∃ r0 r1 r2 r3, curve_unpacked (leB 32 v) = some (r0, r1, r2, r3, true) ∧ LP r0 r1 r2 r3 (pt v h) := by
  have hy0 : 0 ≤ v % Hb ∧ v % Hb < 115792089237316195423570985008687907853269984665640564039457584007913129639936 := by unfold Hb; omega
  have hl := low31 v
  have ht := top31 v hv
  obtain ⟨a1, f1, r1⟩ := of_ok (leB_bytes 32 (v % Hb))
  rw [Go.Sc.leV_lb _ hy0] at r1
  have q1 := rf_of r1
  unfold curve_unpacked
  simp only [hl, ht]
  rw [f1, Option.bind_some, nbytes_rep r1, Option.bind_some]
  by_cases hy : v % Hb < pw
  · have e1 : v % Hb % pw = v % Hb := Int.emod_eq_of_lt hy0.1 hy
    rw [e1, decide_eq_true (show leB 32 (v % Hb) = leB 32 (v % Hb) from rfl), if_neg (show ¬ (!true) = true by decide)]
    obtain ⟨a6, f6, r6⟩ := rf_mul q1 q1
    obtain ⟨o, fo, ro⟩ := rf_one
    obtain ⟨z, fz, rz⟩ := rf_zero
    obtain ⟨a10, f10, r10⟩ := rf_sub r6 ro
    obtain ⟨a12, f12, r12⟩ := bend_ok
    obtain ⟨a14, f14, r14⟩ := rf_mul r12 r6
    obtain ⟨a18, f18, r18⟩ := rf_add r14 ro
    obtain ⟨a20, f20, r20⟩ := rf_inv r18
    obtain ⟨a22, f22, r22⟩ := rf_mul r10 r20
    have r22' : Rep a22 (AF (mk (v % Hb))).v := r22
    obtain ⟨a24, f24, r24⟩ := lroot r22'
    rw [f6, Option.bind_some, fo, Option.bind_some, f10, Option.bind_some, f12, Option.bind_some, f14, Option.bind_some, Option.bind_some, f18, Option.bind_some, f20, Option.bind_some, f22, Option.bind_some, f24, Option.bind_some]
    simp only []
    obtain ⟨m, a44, a46, ft, rm, r44, r46⟩ := tail_ok (v / Hb) (v / Hb == 1) rfl r24 q1
    rw [fo] at ft
    cases hk : okR (AF (mk (v % Hb))).v
    · left
      refine ⟨by unfold good; rw [hk, decide_eq_true hy]; rfl, _, _, _, _, by rw [Bool.not_false, if_pos rfl]⟩
    · rw [Bool.not_true, if_neg (by decide)]
      by_cases hs : v / Hb = 1
      · rw [if_pos (beq_iff_eq.2 hs), fz, Option.bind_some, lsame r24 rz, Option.bind_some, z0]
        by_cases h0 : rv (AF (mk (v % Hb))).v % pw = 0
        · left
          refine ⟨by unfold good; rw [hk, decide_eq_true hy, decide_eq_true hs, decide_eq_true h0]; rfl, _, _, _, _, by rw [decide_eq_true ((rho_rv _).2 h0), if_pos rfl]⟩
        · right
          have hg : good v = true := by unfold good; rw [hk, decide_eq_true hy, decide_eq_true hs, decide_eq_false h0]; rfl
          refine ⟨hg, m, a1, a44, a46, ?_, _, _, _, _, rm, q1, r44, r46, ext_one rfl rfl rfl rfl⟩
          rw [decide_eq_false (fun h => h0 ((rho_rv _).1 h)), if_neg (by decide)]
          rw [fz] at ft
          exact ft
      · rw [if_neg (by rw [beq_iff_eq]; exact hs)]
        right
        have hg : good v = true := by unfold good; rw [hk, decide_eq_true hy, decide_eq_false hs]; rfl
        refine ⟨hg, m, a1, a44, a46, ?_, _, _, _, _, rm, q1, r44, r46, ext_one rfl rfl rfl rfl⟩
        exact ft
  · left
    refine ⟨by unfold good; rw [decide_eq_false hy]; rfl, List.replicate 5 0, List.replicate 5 0, List.replicate 5 0, List.replicate 5 0, ?_⟩
    have hne : ¬ leB 32 (v % Hb % pw) = leB 32 (v % Hb) := by
      rw [leB_inj (mod_bd' _) hy0]
      intro h
      have := mod_bd (v % Hb)
      omega
    rw [decide_eq_false hne]; rfl
theorem inv_r (a Z : Fp) (h : Z ≠ 0) : a * Z * K.inv Z = a := by
  have := K.inv_ok Z h
  generalize K.inv Z = i at *
  grind
theorem enc_odd (P : Pt K) (h : P.x.v % 2 = 1) : (leB 32 P.y.v).set 31 (bor .u8 ((leB 32 P.y.v).getD 31 0) 128) = enc P := by
  have b := fbd P.y
  rw [or31 _ (by unfold Hb; unfold pw at b; omega)]
  unfold enc encV; rw [h]; congr 1
theorem enc_even (P : Pt K) (h : ¬ P.x.v % 2 = 1) : leB 32 P.y.v = enc P := by
  unfold enc encV; rw [show P.x.v % 2 = 0 by omega]; congr 1
theorem l_pack {a b c e : List Int} {P : Pt K} (h : LP a b c e P) : curve_point_packed a b c e = some (enc P) := by
  obtain ⟨X, Y, Z, T, hX, hY, hZ, hT, z1, eX, eY, eT⟩ := h
  obtain ⟨a1, f1, r1⟩ := rf_inv hZ
  obtain ⟨a3, f3, r3⟩ := rf_mul hY r1
  obtain ⟨a7, f7, r7⟩ := rf_mul hX r1
  rw [eY, inv_r _ _ z1] at r3
  rw [eX, inv_r _ _ z1] at r7
  unfold curve_point_packed
  rw [f1, Option.bind_some, f3, Option.bind_some, nbytes_rep r3, Option.bind_some, f7, Option.bind_some, lodd r7, Option.bind_some, (fvh P.x), (fvh P.y)]
  by_cases ho : P.x.v % 2 = 1
  · rw [decide_eq_true ho, enc_odd P ho]; rfl
  · rw [decide_eq_false ho, ← enc_even P ho]; rfl
theorem w_pack {a b c e : List Int} {P : Pt K} (h : WP a b c e P) : ref04_Encode a b c e = some (enc P) := by
  obtain ⟨X, Y, Z, T, rfl, rfl, rfl, rfl, z1, eX, eY, eT⟩ := h
  unfold ref04_Encode
  rw [winv, Option.bind_some, wmul, Option.bind_some, wmul, Option.bind_some, eY, inv_r _ _ z1, eX, inv_r _ _ z1, rbytes, Option.bind_some, words4_odd]
  by_cases ho : P.x.v % 2 = 1
  · rw [ho, enc_odd P ho]; rfl
  · rw [show P.x.v % 2 = 0 by omega, ← enc_even P ho]; rfl
theorem d_key : (0 - mk 121665) * K.inv (mk 121666) = K.d := by
  have hn : mk 121666 ≠ 0 := fun h => absurd (mk_zero.1 h) (by decide)
  have hi := K.inv_ok _ hn
  have hd : mk 121666 * K.d = 0 - mk 121665 := by
    rw [zero_mk, mk_sub]; show mk 121666 * mk dw = _; rw [mk_mul, mk_eq]; decide
  rw [← hd]
  generalize K.inv (mk 121666) = i at *
  generalize mk 121666 = u at *
  generalize K.d = d at *
  clear hd hn
  grind
theorem w_d : ref04_d = some (words4 K.d.v) := by
  have e0 : List.replicate 4 (0 : Int) = words4 (0 : Fp).v := by kernel_rfl
  have e1 : [(121665 : Int), 0, 0, 0] = words4 (mk 121665).v := by kernel_rfl
  have e2 : [(121666 : Int), 0, 0, 0] = words4 (mk 121666).v := by kernel_rfl
  unfold ref04_d
  rw [e0, e1, e2, wsub, Option.bind_some, winv, Option.bind_some, wmul, Option.bind_some, d_key]
end Go.Cu
/- What the program and the page do with points in bytes. -/
namespace Go.Cu
open Go Go.Gw Go.Proofs.Sb.D Go.Pn
theorem words4_z (v : Int) : (words4 (v % pw) = List.replicate 4 0) ↔ v % pw = 0 := by
  have e0 : List.replicate 4 (0 : Int) = words4 (0 % pw) := by kernel_rfl
  rw [e0, dec_w]; rfl
theorem w_dec (v : Int) (hv : 0 ≤ v ∧ v < 115792089237316195423570985008687907853269984665640564039457584007913129639936) :
    (good v = false ∧ ∃ r0 r1 r2 r3, ref04_Decode (leB 32 v) = some (r0, r1, r2, r3, false)) ∨ ∃ h : good v = true, ∃ r0 r1 r2 r3, ref04_Decode (leB 32 v) = some (r0, r1, r2, r3, true) ∧ WP r0 r1 r2 r3 (pt v h) := by
  have hy0 : 0 ≤ v % Hb ∧ v % Hb < 115792089237316195423570985008687907853269984665640564039457584007913129639936 := by unfold Hb; omega
  have hl := low31 v
  have ht := ge31 v hv
  unfold ref04_Decode
  simp only [hl, ht]
  rw [rof (leB_bytes 32 (v % Hb)), Go.Sc.leV_lb _ hy0, Option.bind_some, rP, Option.bind_some, rless _ _ hy0 (by decide), Option.bind_some]
  by_cases hy : v % Hb < pw
  · have e1 : words4 (v % Hb) = words4 (mk (v % Hb)).v := by
      rw [mk_val, Int.emod_eq_of_lt hy0.1 hy]
    have o1 : [(1 : Int), 0, 0, 0] = words4 (1 : Fp).v := by kernel_rfl
    have e0 : List.replicate 4 (0 : Int) = words4 (0 : Fp).v := by kernel_rfl
    rw [decide_eq_true hy, if_neg (show ¬ (!true) = true by decide), e1, wmul, Option.bind_some, o1, wsub, Option.bind_some, w_d, Option.bind_some, wmul, Option.bind_some, wadd, Option.bind_some, winv, Option.bind_some, wmul, Option.bind_some]
    have hA : ((mk (v % Hb) * mk (v % Hb) - 1) * K.inv (K.d * (mk (v % Hb) * mk (v % Hb)) + 1)) = AF (mk (v % Hb)) := rfl
    rw [hA, rroot (fbd' _), Option.bind_some]
    simp only []
    cases hk : okR (AF (mk (v % Hb))).v
    · left
      refine ⟨by unfold good; rw [hk, decide_eq_true hy]; rfl, _, _, _, _, by rw [Bool.not_false, if_pos rfl]⟩
    · rw [Bool.not_true, if_neg (show ¬ false = true by decide), if_pos (show true = true from rfl), decide_eq_decide.2 (words4_z (rv (AF (mk (v % Hb))).v))]
      have hneg : ref04_Sub (List.replicate 4 0) (words4 (rv (AF (mk (v % Hb))).v % pw)) = some (words4 (mk (0 - rv (AF (mk (v % Hb))).v)).v) := by
        have h := wsub 0 (mk (rv (AF (mk (v % Hb))).v))
        rw [zero_mk, mk_sub, mk_val (rv _)] at h
        rw [e0, zero_mk]; exact h
      by_cases hs : v / Hb = 1
      · rw [decide_eq_true hs]
        by_cases h0 : rv (AF (mk (v % Hb))).v % pw = 0
        · left
          refine ⟨by unfold good; rw [hk, decide_eq_true hy, decide_eq_true hs, decide_eq_true h0]; rfl, _, _, _, _, by rw [decide_eq_true h0, if_pos rfl, if_pos rfl]⟩
        · right
          have hg : good v = true := by unfold good; rw [hk, decide_eq_true hy, decide_eq_true hs, decide_eq_false h0]; rfl
          have hx : xd (v / Hb) (AF (mk (v % Hb))) = mk (0 - rv (AF (mk (v % Hb))).v) := by unfold xd; rw [if_pos hs]
          rw [decide_eq_false h0, if_neg (show ¬ false = true by decide), if_pos (show true = true from rfl), hneg, Option.bind_some, Option.bind_some, wmul, Option.bind_some, ← hx]
          exact ⟨hg, _, _, _, _, rfl, _, _, _, _, rfl, rfl, rfl, rfl, ext_one rfl rfl rfl rfl⟩
      · rw [decide_eq_false hs]
        right
        have hg : good v = true := by unfold good; rw [hk, decide_eq_true hy, decide_eq_false hs]; rfl
        have hx : xd (v / Hb) (AF (mk (v % Hb))) = mk (rv (AF (mk (v % Hb))).v) := by unfold xd; rw [if_neg hs]
        have hx' : words4 (rv (AF (mk (v % Hb))).v % pw) = words4 (xd (v / Hb) (AF (mk (v % Hb)))).v := by rw [hx, mk_val]
        rw [hx']
        by_cases h0 : rv (AF (mk (v % Hb))).v % pw = 0
        · rw [decide_eq_true h0, if_pos (show true = true from rfl), if_neg (show ¬ false = true by decide), if_neg (show ¬ false = true by decide), Option.bind_some, wmul, Option.bind_some]
          exact ⟨hg, _, _, _, _, rfl, _, _, _, _, rfl, rfl, rfl, rfl, ext_one rfl rfl rfl rfl⟩
        · rw [decide_eq_false h0, if_neg (show ¬ false = true by decide), if_neg (show ¬ false = true by decide), Option.bind_some, wmul, Option.bind_some]
          exact ⟨hg, _, _, _, _, rfl, _, _, _, _, rfl, rfl, rfl, rfl, ext_one rfl rfl rfl rfl⟩
  · left
    refine ⟨by unfold good; rw [decide_eq_false hy]; rfl, List.replicate 4 0, List.replicate 4 0, List.replicate 4 0, List.replicate 4 0, ?_⟩
    rw [decide_eq_false hy]; rfl
/-- the number that some bytes are -/
structure Num (a : List Int) (v : Int) : Prop where
  e : a = leB 32 v
  b : 0 ≤ v ∧ v < 115792089237316195423570985008687907853269984665640564039457584007913129639936
theorem num_of {a : List Int} (h : Bytes32 a) : Num a (leV a) := ⟨(leB_leV h).symm, leV_bd h⟩
theorem num_enc (P : Pt K) : Num (enc P) (encV P) := ⟨rfl, encV_bd P⟩
theorem un_none {a : List Int} {v : Int} (n : Num a v) (h : dec v = none) : ∃ r0 r1 r2 r3, curve_unpacked a = some (r0, r1, r2, r3, false) := by
  rw [n.e]
  rcases l_unp v n.b with ⟨_, g⟩ | ⟨g, _⟩
  · exact g
  · rw [dec_some g] at h; exact absurd h (by simp)
theorem un_some {a : List Int} {v : Int} {P : Pt K} (n : Num a v) (h : dec v = some P) : ∃ r0 r1 r2 r3, curve_unpacked a = some (r0, r1, r2, r3, true) ∧ LP r0 r1 r2 r3 P := by
  rw [n.e]
  rcases l_unp v n.b with ⟨g, _⟩ | ⟨g, r⟩
  · rw [dec_none g] at h; exact absurd h (by simp)
  · rw [dec_some g] at h; cases h; exact r
theorem wn_none {a : List Int} {v : Int} (n : Num a v) (h : dec v = none) : ∃ r0 r1 r2 r3, ref04_Decode a = some (r0, r1, r2, r3, false) := by
  rw [n.e]
  rcases w_dec v n.b with ⟨_, g⟩ | ⟨g, _⟩
  · exact g
  · rw [dec_some g] at h; exact absurd h (by simp)
theorem wn_some {a : List Int} {v : Int} {P : Pt K} (n : Num a v) (h : dec v = some P) : ∃ r0 r1 r2 r3, ref04_Decode a = some (r0, r1, r2, r3, true) ∧ WP r0 r1 r2 r3 P := by
  rw [n.e]
  rcases w_dec v n.b with ⟨g, _⟩ | ⟨g, r⟩
  · rw [dec_none g] at h; exact absurd h (by simp)
  · rw [dec_some g] at h; cases h; exact r
theorem c_check {a : List Int} {v : Int} (n : Num a v) : curve_Check a = some (dec v).isSome := by
  unfold curve_Check
  cases h : dec v with
  | none => obtain ⟨r0, r1, r2, r3, e⟩ := un_none n h; rw [e]; rfl
  | some P => obtain ⟨r0, r1, r2, r3, e, _⟩ := un_some n h; rw [e]; rfl
def ansC : Option (Pt K) → List Int × Int
  | some P => (enc P, 0)
  | none => (List.replicate 32 0, 1)
def ansR : Option (Pt K) → List Int × Bool
  | some P => (enc P, true)
  | none => (List.replicate 32 0, false)
def add? : Option (Pt K) → Option (Pt K) → Option (Pt K)
  | some P, some Q => some (P.add Q)
  | _, _ => none
theorem c_add {a b : List Int} {u v : Int} (n : Num a u) (m : Num b v) : curve_Add a b = some (ansC (add? (dec u) (dec v))) := by
  unfold curve_Add
  cases h : dec u with
  | none =>
    obtain ⟨r0, r1, r2, r3, e⟩ := un_none n h
    cases g : dec v with
    | none => obtain ⟨s0, s1, s2, s3, f⟩ := un_none m g; rw [e, Option.bind_some, f]; rfl
    | some Q => obtain ⟨s0, s1, s2, s3, f, _⟩ := un_some m g; rw [e, Option.bind_some, f]; rfl
  | some P =>
    obtain ⟨r0, r1, r2, r3, e, hP⟩ := un_some n h
    cases g : dec v with
    | none => obtain ⟨s0, s1, s2, s3, f⟩ := un_none m g; rw [e, Option.bind_some, f]; rfl
    | some Q =>
      obtain ⟨s0, s1, s2, s3, f, hQ⟩ := un_some m g
      rw [e, Option.bind_some]
      simp only []
      rw [f, Option.bind_some]
      simp only [Bool.not_true]
      rw [if_neg (show ¬ false = true by decide), if_neg (show ¬ false = true by decide)]
      unfold curve_sum
      obtain ⟨t, et, ht⟩ := twice_ok fun a5 => (curve_plus r0 r1 r2 r3 s0 s1 s2 s3 a5).bind (fun (a7, a8, a9, a10) => some (a7, a8, a9, a10))
      obtain ⟨q0, q1, q2, q3, eq, hq⟩ := l_plus hP hQ ht
      rw [et, eq, Option.bind_some, Option.bind_some]
      simp only []
      rw [l_pack hq]; rfl
theorem c_neg {a : List Int} {v : Int} (n : Num a v) : curve_Neg a = some (ansC ((dec v).map Pt.neg)) := by
  unfold curve_Neg
  cases h : dec v with
  | none => obtain ⟨r0, r1, r2, r3, e⟩ := un_none n h; rw [e]; rfl
  | some P =>
    obtain ⟨r0, r1, r2, r3, e, X, Y, Z, T, hX, hY, hZ, hT, z1, eX, eY, eT⟩ := un_some n h
    obtain ⟨z, fz, rz⟩ := rf_zero
    obtain ⟨a11, f11, r11⟩ := rf_sub rz hX
    obtain ⟨a15, f15, r15⟩ := rf_sub rz hT
    have hp : LP a11 r1 r2 a15 P.neg := ⟨_, _, _, _, r11, hY, hZ, r15, z1, by rw [eX]; exact n1 .., eY, by rw [eT]; exact n2 ..⟩
    rw [e, Option.bind_some]
    simp only [Bool.not_true]
    rw [if_neg (show ¬ false = true by decide), fz, Option.bind_some, f11, Option.bind_some, Option.bind_some, f15, Option.bind_some, l_pack hp]; rfl
where
  n1 (x z : Fp) : 0 - x * z = -x * z := by grind
  n2 (x y z : Fp) : 0 - x * y * z = -x * y * z := by grind
theorem c_mul {e a : List Int} {v : Int} {E : Nat} (he : e = leB 32 E) (hE : E < 2 ^ 256) (n : Num a v) : curve_Mul e a = some (ansC ((dec v).map (Pt.mul E))) := by
  subst he
  unfold curve_Mul
  cases h : dec v with
  | none => obtain ⟨r0, r1, r2, r3, e⟩ := un_none n h; rw [e]; rfl
  | some P =>
    obtain ⟨r0, r1, r2, r3, e, hP⟩ := un_some n h
    obtain ⟨q0, q1, q2, q3, eq, hq⟩ := l_times hP E hE
    rw [e, Option.bind_some]
    simp only [Bool.not_true]
    rw [if_neg (show ¬ false = true by decide), eq, Option.bind_some]
    simp only []
    rw [l_pack hq]; rfl
theorem w_times {p0 p1 p2 p3 : List Int} {P : Pt K} (hp : WP p0 p1 p2 p3 P) (E : Nat) (hE : E < 2 ^ 256) : ∃ r0 r1 r2 r3, ref04_multiple (words4 E) p0 p1 p2 p3 = some (r0, r1, r2, r3) ∧ WP r0 r1 r2 r3 (Pt.mul E P) := by
  obtain ⟨o0, o1, o2, o3, fo, ho⟩ := w_zero
  obtain ⟨r0, r1, r2, r3, f, hr⟩ := w_times_loop hp rfl E 256 (Nat.le_refl _) o0 o1 o2 o3 (by rw [Nat.div_eq_of_lt hE]; exact ho)
  have f' : ref04_multiple_l0 (words4 E) p0 p1 p2 p3 (words4 K.d.v) (((255 : Int) - (0 : Int) + 1).toNat + 1) o0 o1 o2 o3 (255 : Int) = some (r0, r1, r2, r3) := f
  refine ⟨r0, r1, r2, r3, ?_, hr⟩
  unfold ref04_multiple
  rw [w_d, Option.bind_some, fo, Option.bind_some]
  simp only []
  rw [f', Option.bind_some]
theorem r_sum {a b : List Int} {u v : Int} (n : Num a u) (m : Num b v) : ref04_Sum a b = some (ansR (add? (dec u) (dec v))) := by
  unfold ref04_Sum
  cases h : dec u with
  | none =>
    obtain ⟨r0, r1, r2, r3, e⟩ := wn_none n h
    cases g : dec v with
    | none => obtain ⟨s0, s1, s2, s3, f⟩ := wn_none m g; rw [e, Option.bind_some, f]; rfl
    | some Q => obtain ⟨s0, s1, s2, s3, f, _⟩ := wn_some m g; rw [e, Option.bind_some, f]; rfl
  | some P =>
    obtain ⟨r0, r1, r2, r3, e, hP⟩ := wn_some n h
    cases g : dec v with
    | none => obtain ⟨s0, s1, s2, s3, f⟩ := wn_none m g; rw [e, Option.bind_some, f]; rfl
    | some Q =>
      obtain ⟨s0, s1, s2, s3, f, hQ⟩ := wn_some m g
      rw [e, Option.bind_some]
      simp only []
      rw [f, Option.bind_some]
      simp only [Bool.not_true]
      obtain ⟨q0, q1, q2, q3, eq, hq⟩ := w_plus hP hQ rfl
      rw [if_neg (show ¬ false = true by decide), if_neg (show ¬ false = true by decide), w_d, Option.bind_some, eq, Option.bind_some]
      simp only []
      rw [w_pack hq]; rfl
theorem r_neg {a : List Int} {v : Int} (n : Num a v) : ref04_Negate a = some (ansR ((dec v).map Pt.neg)) := by
  unfold ref04_Negate
  cases h : dec v with
  | none => obtain ⟨r0, r1, r2, r3, e⟩ := wn_none n h; rw [e]; rfl
  | some P =>
    obtain ⟨r0, r1, r2, r3, e, X, Y, Z, T, rfl, rfl, rfl, rfl, z1, eX, eY, eT⟩ := wn_some n h
    have e0 : List.replicate 4 (0 : Int) = words4 (0 : Fp).v := by kernel_rfl
    have hp : WP (words4 (0 - X).v) (words4 Y.v) (words4 Z.v) (words4 (0 - T).v) P.neg := ⟨_, _, _, _, rfl, rfl, rfl, rfl, z1, by rw [eX]; exact c_neg.n1 .., eY, by rw [eT]; exact c_neg.n2 ..⟩
    rw [e, Option.bind_some]
    simp only [Bool.not_true]
    rw [if_neg (show ¬ false = true by decide), e0, wsub, Option.bind_some, wsub, Option.bind_some, w_pack hp]; rfl
theorem r_times {e a : List Int} {v : Int} {E : Nat} (he : e = leB 32 E) (hE : E < 2 ^ 256) (n : Num a v) : ref04_Times e a = some (ansR ((dec v).map (Pt.mul E))) := by
  subst he
  unfold ref04_Times
  cases h : dec v with
  | none => obtain ⟨r0, r1, r2, r3, e⟩ := wn_none n h; rw [e]; rfl
  | some P =>
    obtain ⟨r0, r1, r2, r3, e, hP⟩ := wn_some n h
    obtain ⟨q0, q1, q2, q3, eq, hq⟩ := w_times hP E hE
    have h256 : (2 : Nat) ^ 256 = 115792089237316195423570985008687907853269984665640564039457584007913129639936 := by decide
    have hb : (0 : Int) ≤ (E : Int) ∧ (E : Int) < 115792089237316195423570985008687907853269984665640564039457584007913129639936 := by omega
    rw [e, Option.bind_some]
    simp only [Bool.not_true]
    rw [if_neg (show ¬ false = true by decide), rof (leB_bytes 32 _), Go.Sc.leV_lb _ hb, Option.bind_some, eq, Option.bind_some]
    simp only []
    rw [w_pack hq]; rfl
end Go.Cu
