/- Plain numbers: what is told to the nearest one; roots; units of quaternions; turns. No program. -/
import Derived.Test.YtcabnnfhcolcfaaRows
namespace Go.Proofs.Ytcabnnfhcolcfaa
set_option linter.unusedSimpArgs false
set_option linter.unusedVariables false
/-- The nearest whole number, of two that are as near the even one. -/
def rnd (a b : Int) : Int := if b < 2 * (a % b) ∨ 2 * (a % b) = b ∧ a / b % 2 = 1 then a / b + 1 else a / b
theorem rnd_near (a b : Int) (hb : 0 < b) : -b ≤ 2 * (rnd a b * b - a) ∧ 2 * (rnd a b * b - a) ≤ b := by
  have e := Int.emod_add_mul_ediv a b
  have h1 := Int.emod_nonneg a (show b ≠ 0 by omega)
  have h2 := Int.emod_lt_of_pos a hb
  unfold rnd
  have c := Int.mul_comm b (a / b)
  split
  · rw [Int.add_mul, Int.one_mul]; omega
  · omega
theorem rnd_mul (k b : Int) (hb : 0 < b) : rnd (k * b) b = k := by
  unfold rnd
  rw [Int.mul_emod_left, Int.mul_ediv_cancel _ (by omega), if_neg (by omega)]
theorem rnd_zero (b : Int) (hb : 0 < b) : rnd 0 b = 0 := by have := rnd_mul 0 b hb; rwa [Int.zero_mul] at this
theorem rnd_neg (a b : Int) (hb : 0 < b) : rnd (-a) b = -rnd a b := by
  have e := Int.emod_add_mul_ediv a b
  have h1 := Int.emod_nonneg a (show b ≠ 0 by omega)
  have h2 := Int.emod_lt_of_pos a hb
  have c := Int.mul_comm b (a / b)
  rcases Int.lt_or_le 0 (a % b) with h | h
  · have hd : (-a) / b = -(a / b) - 1 := by
      refine Int.ediv_eq_iff_of_pos hb |>.2 ?_
      have : (-(a / b) - 1) * b = -(b * (a / b)) - b := by grind
      omega
    have hm : (-a) % b = b - a % b := by
      have e2 := Int.emod_add_mul_ediv (-a) b
      rw [hd] at e2
      have : b * (-(a / b) - 1) = -(b * (a / b)) - b := by grind
      omega
    unfold rnd
    rw [hd, hm]
    split <;> split <;> omega
  · have h0 : a % b = 0 := by omega
    have e2 : -a = (-(a / b)) * b := by rw [Int.neg_mul]; omega
    have e3 : a = (a / b) * b := by omega
    rw [e2, rnd_mul _ _ hb]
    conv => rhs; rw [e3, rnd_mul _ _ hb]
/-- The greatest number whose square is not above one. -/
def flN : Nat → Nat
  | 0 => 0
  | n + 1 => if (flN n + 1) * (flN n + 1) ≤ n + 1 then flN n + 1 else flN n
def fl (n : Int) : Int := flN n.toNat
theorem flN_spec (n : Nat) : flN n * flN n ≤ n ∧ n < (flN n + 1) * (flN n + 1) := by
  induction n with
  | zero => decide
  | succ n ih =>
    unfold flN
    split
    · refine ⟨by assumption, ?_⟩
      have : (flN n + 1 + 1) * (flN n + 1 + 1) = (flN n + 1) * (flN n + 1) + 2 * (flN n + 1) + 1 := by grind
      omega
    · omega
theorem fl_spec (n : Int) (h : 0 ≤ n) : 0 ≤ fl n ∧ fl n * fl n ≤ n ∧ n < (fl n + 1) * (fl n + 1) := by
  have ⟨h1, h2⟩ := flN_spec n.toNat
  unfold fl
  have h1' := Int.ofNat_le.2 h1
  have h2' := Int.ofNat_lt.2 h2
  simp only [Int.natCast_mul, Int.natCast_add, Int.toNat_of_nonneg h] at h1' h2'
  exact ⟨by omega, h1', h2'⟩
theorem sq_lt {a b : Int} (ha : 0 ≤ a) (hb : 0 ≤ b) (h : a * a < b * b) : a < b := by
  refine Classical.byContradiction fun hn => ?_
  have h1 : b * b ≤ a * b := Int.mul_le_mul_of_nonneg_right (by omega) hb
  have h2 : a * b ≤ a * a := Int.mul_le_mul_of_nonneg_left (by omega) ha
  omega
theorem sq_le {a b : Int} (hb : 0 ≤ b) (h : a * a ≤ b * b) : a ≤ b := by
  refine Classical.byContradiction fun hn => ?_
  have h1 : b * a < a * a := Int.mul_lt_mul_of_pos_right (by omega) (by omega)
  have h2 : b * b ≤ b * a := Int.mul_le_mul_of_nonneg_left (by omega) hb
  omega
theorem fl_uniq {n r : Int} (h0 : 0 ≤ r) (h1 : r * r ≤ n) (h2 : n < (r + 1) * (r + 1)) : fl n = r := by
  have hn : 0 ≤ n := by have := Int.mul_nonneg h0 h0; omega
  obtain ⟨k0, k1, k2⟩ := fl_spec n hn
  have := sq_lt (a := r) (b := fl n + 1) h0 (by omega) (by omega)
  have := sq_lt (a := fl n) (b := r + 1) k0 (by omega) (by omega)
  omega
/-- The nearest number to the root of n / d. -/
def near (n d : Int) : Int :=
  if (2 * fl (n / d) + 1) * (2 * fl (n / d) + 1) * d < 4 * n ∨ (2 * fl (n / d) + 1) * (2 * fl (n / d) + 1) * d = 4 * n ∧ fl (n / d) % 2 ≠ 0 then fl (n / d) + 1 else fl (n / d)
theorem near_spec (n d : Int) (hn : 0 ≤ n) (hd : 0 < d) : 0 ≤ near n d ∧ 4 * n ≤ (2 * near n d + 1) * (2 * near n d + 1) * d ∧ (0 < near n d → (2 * near n d - 1) * (2 * near n d - 1) * d ≤ 4 * n) := by
  have h0 : 0 ≤ n / d := Int.ediv_nonneg hn (by omega)
  obtain ⟨k0, k1, k2⟩ := fl_spec (n / d) h0
  unfold near
  generalize fl (n / d) = x at *
  have h1 : x * x * d ≤ n := (Int.le_ediv_iff_mul_le hd).1 k1
  have h2 : n < (x + 1) * (x + 1) * d := (Int.ediv_lt_iff_lt_mul hd).1 k2
  have hxd : 0 ≤ x * d := Int.mul_nonneg k0 (by omega)
  split
  · refine ⟨by omega, ?_, fun _ => ?_⟩
    · have : (2 * (x + 1) + 1) * (2 * (x + 1) + 1) * d = 4 * ((x + 1) * (x + 1) * d) + 4 * (x * d) + 5 * d := by grind
      omega
    · have : (2 * (x + 1) - 1) * (2 * (x + 1) - 1) * d = (2 * x + 1) * (2 * x + 1) * d := by grind
      omega
  · refine ⟨by omega, by omega, fun hx => ?_⟩
    have e : (2 * x - 1) * (2 * x - 1) * d = 4 * (x * x * d) - 4 * (x * d) + d := by grind
    have : 1 * d ≤ x * d := Int.mul_le_mul_of_nonneg_right (by omega) (by omega)
    omega
/-- The nearest number to x 2^30 over the root of n. -/
def share (x n : Int) : Int := if x < 0 then -near (x * x * 2 ^ 60) n else near (x * x * 2 ^ 60) n
theorem share_zero (n : Int) (hn : 0 < n) : near (0 * 0 * 2 ^ 60) n = 0 := by
  have h0 : fl (0 * 0 * 2 ^ 60 / n) = 0 := by
    rw [show (0 : Int) * 0 * 2 ^ 60 = 0 by decide, Int.zero_ediv]; decide
  unfold near
  rw [h0]
  split <;> omega
theorem share_neg (x n : Int) (hn : 0 < n) : share (-x) n = -share x n := by
  unfold share
  rw [show -x * -x = x * x by grind]
  rcases Int.lt_trichotomy x 0 with h | h | h
  · rw [if_neg (by omega), if_pos h]; omega
  · subst h
    rw [if_neg (by omega), if_neg (by omega), share_zero n hn]; rfl
  · rw [if_pos (by omega), if_neg (by omega)]

/-- The size without a sign. -/
def ab (x : Int) : Int := if x < 0 then -x else x
theorem ab_nonneg (x : Int) : 0 ≤ ab x := by unfold ab; split <;> omega
theorem ab_sq (x : Int) : ab x * ab x = x * x := by unfold ab; split <;> grind
theorem ab_share (x n : Int) (hn : 0 < n) : ab (share x n) = near (x * x * 2 ^ 60) n := by
  have h := (near_spec (x * x * 2 ^ 60) n (Int.mul_nonneg (by rw [← ab_sq]; exact Int.mul_nonneg (ab_nonneg x) (ab_nonneg x)) (by decide)) hn).1
  unfold share ab
  split <;> split <;> omega
theorem sq_nonneg (x : Int) : 0 ≤ x * x := by rw [← ab_sq]; exact Int.mul_nonneg (ab_nonneg x) (ab_nonneg x)
theorem share_hi (x n : Int) (hn : 0 < n) : (share x n * share x n - ab (share x n)) * n ≤ x * x * 2 ^ 60 := by
  have hq := Int.mul_nonneg (sq_nonneg x) (show (0 : Int) ≤ 2 ^ 60 by decide)
  obtain ⟨h0, h1, h2⟩ := near_spec (x * x * 2 ^ 60) n hq hn
  rw [← ab_sq (share x n), ab_share x n hn]
  generalize near (x * x * 2 ^ 60) n = y at *
  generalize x * x * 2 ^ 60 = q at *
  rcases Int.lt_or_le 0 y with h | h
  · have := h2 h
    have e : (2 * y - 1) * (2 * y - 1) * n = 4 * ((y * y - y) * n) + n := by grind
    omega
  · have : y = 0 := by omega
    subst this; simp; omega
theorem share_lo (x n : Int) (hn : 0 < n) : 4 * (x * x * 2 ^ 60) ≤ (4 * (share x n * share x n) + 4 * ab (share x n) + 1) * n := by
  have hq := Int.mul_nonneg (sq_nonneg x) (show (0 : Int) ≤ 2 ^ 60 by decide)
  obtain ⟨h0, h1, h2⟩ := near_spec (x * x * 2 ^ 60) n hq hn
  rw [← ab_sq (share x n), ab_share x n hn]
  generalize near (x * x * 2 ^ 60) n = y at *
  generalize x * x * 2 ^ 60 = q at *
  have e : (2 * y + 1) * (2 * y + 1) * n = (4 * (y * y) + 4 * y + 1) * n := by grind
  omega
theorem sum4_sq (a b c d : Int) : (a + b + c + d) * (a + b + c + d) ≤ 4 * (a * a + b * b + c * c + d * d) := by
  have h1 := sq_nonneg (a - b)
  have h2 := sq_nonneg (a - c)
  have h3 := sq_nonneg (a - d)
  have h4 := sq_nonneg (b - c)
  have h5 := sq_nonneg (b - d)
  have h6 := sq_nonneg (c - d)
  grind
def sq4 (a b c d : Int) : Int := a * a + b * b + c * c + d * d
theorem sq4_pos {a b c d : Int} (h : ¬ (a = 0 ∧ b = 0 ∧ c = 0 ∧ d = 0)) : 0 < sq4 a b c d := by
  unfold sq4
  have h1 := sq_nonneg a
  have h2 := sq_nonneg b
  have h3 := sq_nonneg c
  have h4 := sq_nonneg d
  have P : ∀ x : Int, x ≠ 0 → 0 < x * x := fun x hx => by
    have := sq_nonneg x
    have : x * x ≠ 0 := Int.mul_ne_zero hx hx
    omega
  rcases Int.lt_trichotomy a 0 with k | k | k
  · have := P a (by omega); omega
  · rcases Int.lt_trichotomy b 0 with k2 | k2 | k2
    · have := P b (by omega); omega
    · rcases Int.lt_trichotomy c 0 with k3 | k3 | k3
      · have := P c (by omega); omega
      · have := P d (by omega); omega
      · have := P c (by omega); omega
    · have := P b (by omega); omega
  · have := P a (by omega); omega
/-- A unit's squares are together 2^60, but for 2^31 + 2. -/
theorem unit_squares (a b c d n : Int) (hn : n = sq4 a b c d) (h0 : 0 < n) :
    -2147483650 ≤ sq4 (share a n) (share b n) (share c n) (share d n) - 2 ^ 60 ∧ sq4 (share a n) (share b n) (share c n) (share d n) - 2 ^ 60 ≤ 2147483650 := by
  have ha := share_hi a n h0
  have hb := share_hi b n h0
  have hc := share_hi c n h0
  have hd := share_hi d n h0
  have la := share_lo a n h0
  have lb := share_lo b n h0
  have lc := share_lo c n h0
  have ld := share_lo d n h0
  have na := ab_nonneg (share a n)
  have nb := ab_nonneg (share b n)
  have nc := ab_nonneg (share c n)
  have nd := ab_nonneg (share d n)
  have hS := sum4_sq (ab (share a n)) (ab (share b n)) (ab (share c n)) (ab (share d n))
  simp only [ab_sq] at hS
  unfold sq4 at *
  generalize share a n = A at *
  generalize share b n = B at *
  generalize share c n = C at *
  generalize share d n = D at *
  obtain ⟨S, hSe⟩ : ∃ S, S = ab A + ab B + ab C + ab D := ⟨_, rfl⟩
  obtain ⟨N, hNe⟩ : ∃ N, N = A * A + B * B + C * C + D * D := ⟨_, rfl⟩
  rw [← hSe, ← hNe] at hS
  rw [← hNe]
  have e1 : (N - S) * n ≤ 2 ^ 60 * n := by
    have : (N - S) * n = (A * A - ab A) * n + (B * B - ab B) * n + (C * C - ab C) * n + (D * D - ab D) * n := by rw [hNe, hSe]; grind
    have : (2 ^ 60 : Int) * n = a * a * 2 ^ 60 + b * b * 2 ^ 60 + c * c * 2 ^ 60 + d * d * 2 ^ 60 := by rw [hn]; grind
    omega
  have e2 : (4 * 2 ^ 60) * n ≤ (4 * N + 4 * S + 4) * n := by
    have : (4 * N + 4 * S + 4) * n = (4 * (A * A) + 4 * ab A + 1) * n + (4 * (B * B) + 4 * ab B + 1) * n + (4 * (C * C) + 4 * ab C + 1) * n + (4 * (D * D) + 4 * ab D + 1) * n := by rw [hNe, hSe]; grind
    have : (4 * 2 ^ 60 : Int) * n = 4 * (a * a * 2 ^ 60) + 4 * (b * b * 2 ^ 60) + 4 * (c * c * 2 ^ 60) + 4 * (d * d * 2 ^ 60) := by rw [hn]; grind
    omega
  have e1 := Int.le_of_mul_le_mul_right e1 h0
  have e2 := Int.le_of_mul_le_mul_right e2 h0
  have hS0 : 0 ≤ S := by omega
  clear ha hb hc hd la lb lc ld na nb nc nd hSe hNe hn
  obtain ⟨m, hm⟩ : ∃ m, N = 2 ^ 60 + m := ⟨N - 2 ^ 60, by omega⟩
  subst hm
  constructor
  · refine Classical.byContradiction fun hk => ?_
    have k1 : 2147483650 ≤ -m - 1 := by omega
    have k2 : (-m - 1) * (-m - 1) ≤ S * S := Int.mul_le_mul (by omega) (by omega) (by omega) hS0
    have k3 : 2147483650 * (-m - 1) ≤ (-m - 1) * (-m - 1) := Int.mul_le_mul_of_nonneg_right k1 (by omega)
    omega
  · refine Classical.byContradiction fun hk => ?_
    have k1 : 2147483651 ≤ m := by omega
    have k2 : m * m ≤ S * S := Int.mul_le_mul (by omega) (by omega) (by omega) hS0
    have k3 : (m - 4) * 2147483651 ≤ (m - 4) * m := Int.mul_le_mul_of_nonneg_left k1 (by omega)
    have k4 : (m - 4) * m = m * m - 4 * m := by grind
    omega
/-- R(N / 2^30) of what is near 2^60. -/
theorem rnd_30 (N e k : Int) (h1 : -e ≤ N - 2 ^ 60) (h2 : N - 2 ^ 60 ≤ e) (he : 2 * e + 2 ^ 30 < 2 ^ 31 * (k + 1)) : -k ≤ rnd N (2 ^ 30) - 2 ^ 30 ∧ rnd N (2 ^ 30) - 2 ^ 30 ≤ k := by
  have h := rnd_near N (2 ^ 30) (by decide)
  generalize rnd N (2 ^ 30) = r at *
  omega
/-- Numbers of the product. -/
def pw (a b c d e f g h : Int) : Int := a * e - b * f - c * g - d * h
def px (a b c d e f g h : Int) : Int := a * f + b * e + c * h - d * g
def py (a b c d e f g h : Int) : Int := a * g - b * h + c * e + d * f
def pz (a b c d e f g h : Int) : Int := a * h + b * g - c * f + d * e
theorem norm_mul (a b c d e f g h : Int) : sq4 (pw a b c d e f g h) (px a b c d e f g h) (py a b c d e f g h) (pz a b c d e f g h) = sq4 a b c d * sq4 e f g h := by
  unfold sq4 pw px py pz; grind
theorem ab_le_of {x y : Int} (h : -y ≤ x) (h2 : x ≤ y) : ab x ≤ y := by unfold ab; split <;> omega
theorem ab_mul (x y : Int) : ab (x * y) = ab x * ab y := by
  have h := ab_nonneg x
  have h2 := ab_nonneg y
  have h3 := ab_nonneg (x * y)
  have h4 := Int.mul_nonneg h h2
  have e : ab (x * y) * ab (x * y) = (ab x * ab y) * (ab x * ab y) := by
    rw [ab_sq, show (ab x * ab y) * (ab x * ab y) = (ab x * ab x) * (ab y * ab y) by grind, ab_sq, ab_sq]; grind
  have k1 := sq_le h4 (Int.le_of_eq e)
  have k2 := sq_le h3 (Int.le_of_eq e.symm)
  omega
theorem le_ab (x : Int) : x ≤ ab x := by unfold ab; split <;> omega
theorem neg_ab_le (x : Int) : -ab x ≤ x := by unfold ab; split <;> omega
theorem mul_bd {x y p q : Int} (hx : ab x ≤ p) (hy : ab y ≤ q) : -(p * q) ≤ x * y ∧ x * y ≤ p * q := by
  have h : ab (x * y) ≤ p * q := by
    rw [ab_mul]
    exact Int.mul_le_mul hx hy (ab_nonneg y) (by have := ab_nonneg x; omega)
  have := le_ab (x * y)
  have := neg_ab_le (x * y)
  omega
/-- What is told of numbers over 2^30 has nearly the same squares. -/
theorem round_squares (P Q R S T : Int) (hT : sq4 P Q R S ≤ T * T) (h0 : 0 ≤ T) :
    -(2 ^ 31 * T) ≤ 2 ^ 60 * sq4 (rnd P (2 ^ 30)) (rnd Q (2 ^ 30)) (rnd R (2 ^ 30)) (rnd S (2 ^ 30)) - sq4 P Q R S ∧ 2 ^ 60 * sq4 (rnd P (2 ^ 30)) (rnd Q (2 ^ 30)) (rnd R (2 ^ 30)) (rnd S (2 ^ 30)) - sq4 P Q R S ≤ 2 ^ 31 * T + 2 ^ 60 := by
  have h1 := rnd_near P (2 ^ 30) (by decide)
  have h2 := rnd_near Q (2 ^ 30) (by decide)
  have h3 := rnd_near R (2 ^ 30) (by decide)
  have h4 := rnd_near S (2 ^ 30) (by decide)
  generalize rnd P (2 ^ 30) = p at *
  generalize rnd Q (2 ^ 30) = q at *
  generalize rnd R (2 ^ 30) = r at *
  generalize rnd S (2 ^ 30) = s at *
  obtain ⟨E, hE⟩ : ∃ E, p * 2 ^ 30 - P = E := ⟨_, rfl⟩
  obtain ⟨F, hF⟩ : ∃ F, q * 2 ^ 30 - Q = F := ⟨_, rfl⟩
  obtain ⟨G, hG⟩ : ∃ G, r * 2 ^ 30 - R = G := ⟨_, rfl⟩
  obtain ⟨H, hH⟩ : ∃ H, s * 2 ^ 30 - S = H := ⟨_, rfl⟩
  have be : ab E ≤ 2 ^ 29 := ab_le_of (by omega) (by omega)
  have bf : ab F ≤ 2 ^ 29 := ab_le_of (by omega) (by omega)
  have bg : ab G ≤ 2 ^ 29 := ab_le_of (by omega) (by omega)
  have bh : ab H ≤ 2 ^ 29 := ab_le_of (by omega) (by omega)
  have e : 2 ^ 60 * sq4 p q r s - sq4 P Q R S = 2 * (P * E + Q * F + R * G + S * H) + (E * E + F * F + G * G + H * H) := by
    have hp : p * 2 ^ 30 = P + E := by omega
    have hq : q * 2 ^ 30 = Q + F := by omega
    have hr : r * 2 ^ 30 = R + G := by omega
    have hs : s * 2 ^ 30 = S + H := by omega
    have : 2 ^ 60 * sq4 p q r s = (p * 2 ^ 30) * (p * 2 ^ 30) + (q * 2 ^ 30) * (q * 2 ^ 30) + (r * 2 ^ 30) * (r * 2 ^ 30) + (s * 2 ^ 30) * (s * 2 ^ 30) := by unfold sq4; grind
    rw [this, hp, hq, hr, hs]; unfold sq4; grind
  have s1 := mul_bd (Int.le_refl (ab P)) be
  have s2 := mul_bd (Int.le_refl (ab Q)) bf
  have s3 := mul_bd (Int.le_refl (ab R)) bg
  have s4 := mul_bd (Int.le_refl (ab S)) bh
  have t1 := mul_bd be be
  have t2 := mul_bd bf bf
  have t3 := mul_bd bg bg
  have t4 := mul_bd bh bh
  have u1 := sq_nonneg E
  have u2 := sq_nonneg F
  have u3 := sq_nonneg G
  have u4 := sq_nonneg H
  have hs := sum4_sq (ab P) (ab Q) (ab R) (ab S)
  simp only [ab_sq] at hs
  have hs2 : ab P + ab Q + ab R + ab S ≤ 2 * T := by
    refine sq_le (by omega) ?_
    have : 2 * T * (2 * T) = 4 * (T * T) := by grind
    unfold sq4 at hT
    omega
  rw [e]
  generalize P * E = PE at *
  generalize Q * F = QF at *
  generalize R * G = RG at *
  generalize S * H = SH at *
  generalize E * E = EE at *
  generalize F * F = FF at *
  generalize G * G = GG at *
  generalize H * H = HH at *
  clear hE hF hG hH e
  omega

theorem sq4_nonneg (a b c d : Int) : 0 ≤ sq4 a b c d := by
  have h1 := sq_nonneg a
  have h2 := sq_nonneg b
  have h3 := sq_nonneg c
  have h4 := sq_nonneg d
  unfold sq4; omega
theorem prod_near (M N e : Int) (h1 : -e ≤ M - 2 ^ 60) (h2 : M - 2 ^ 60 ≤ e) (h3 : -e ≤ N - 2 ^ 60) (h4 : N - 2 ^ 60 ≤ e) (he : 0 ≤ e) : 2 ^ 120 - 2 ^ 61 * e - e * e ≤ M * N ∧ M * N ≤ (2 ^ 60 + e) * (2 ^ 60 + e) := by
  obtain ⟨m, hm⟩ : ∃ m, M = 2 ^ 60 + m := ⟨M - 2 ^ 60, by omega⟩
  obtain ⟨n, hn⟩ : ∃ n, N = 2 ^ 60 + n := ⟨N - 2 ^ 60, by omega⟩
  subst hm; subst hn
  have hb := mul_bd (x := m) (y := n) (p := e) (q := e) (ab_le_of (by omega) (by omega)) (ab_le_of (by omega) (by omega))
  have e1 : (2 ^ 60 + m) * (2 ^ 60 + n) = 2 ^ 120 + 2 ^ 60 * m + 2 ^ 60 * n + m * n := by grind
  have e2 : (2 ^ 60 + e) * (2 ^ 60 + e) = 2 ^ 120 + 2 ^ 60 * e + 2 ^ 60 * e + e * e := by grind
  rw [e1, e2]
  generalize m * n = mn at *
  generalize e * e = ee at *
  omega
/-- A product of two units is nearly one. -/
theorem unit_product (a b c d e f g h : Int) (h1 : -2147483650 ≤ sq4 a b c d - 2 ^ 60) (h2 : sq4 a b c d - 2 ^ 60 ≤ 2147483650) (h3 : -2147483650 ≤ sq4 e f g h - 2 ^ 60) (h4 : sq4 e f g h - 2 ^ 60 ≤ 2147483650) :
    -2 ^ 33 ≤ sq4 (rnd (pw a b c d e f g h) (2 ^ 30)) (rnd (px a b c d e f g h) (2 ^ 30)) (rnd (py a b c d e f g h) (2 ^ 30)) (rnd (pz a b c d e f g h) (2 ^ 30)) - 2 ^ 60 ∧
    sq4 (rnd (pw a b c d e f g h) (2 ^ 30)) (rnd (px a b c d e f g h) (2 ^ 30)) (rnd (py a b c d e f g h) (2 ^ 30)) (rnd (pz a b c d e f g h) (2 ^ 30)) - 2 ^ 60 ≤ 2 ^ 33 := by
  have hp := prod_near _ _ 2147483650 h1 h2 h3 h4 (by decide)
  have hn := norm_mul a b c d e f g h
  have hr := round_squares (pw a b c d e f g h) (px a b c d e f g h) (py a b c d e f g h) (pz a b c d e f g h) (2 ^ 60 + 2147483650) (by rw [hn]; exact hp.2) (by decide)
  rw [hn] at hr
  generalize sq4 (rnd (pw a b c d e f g h) (2 ^ 30)) (rnd (px a b c d e f g h) (2 ^ 30)) (rnd (py a b c d e f g h) (2 ^ 30)) (rnd (pz a b c d e f g h) (2 ^ 30)) = M at *
  generalize sq4 a b c d * sq4 e f g h = K at *
  omega
theorem part_le (a b c d : Int) (e : Int) (h : sq4 a b c d ≤ e * e) (he : 0 ≤ e) : (-e ≤ a ∧ a ≤ e) ∧ (-e ≤ b ∧ b ≤ e) ∧ (-e ≤ c ∧ c ≤ e) ∧ (-e ≤ d ∧ d ≤ e) := by
  have h1 := sq_nonneg a
  have h2 := sq_nonneg b
  have h3 := sq_nonneg c
  have h4 := sq_nonneg d
  unfold sq4 at h
  have P : ∀ x : Int, x * x ≤ e * e → -e ≤ x ∧ x ≤ e := fun x hx => by
    have := sq_le (a := ab x) he (by rw [ab_sq]; exact hx)
    have := le_ab x
    have := neg_ab_le x
    omega
  exact ⟨P a (by omega), P b (by omega), P c (by omega), P d (by omega)⟩
theorem conj_w (a b c d : Int) : pw a b c d a (-b) (-c) (-d) = sq4 a b c d := by unfold pw sq4; grind
theorem conj_x (a b c d : Int) : px a b c d a (-b) (-c) (-d) = 0 := by unfold px; grind
theorem conj_y (a b c d : Int) : py a b c d a (-b) (-c) (-d) = 0 := by unfold py; grind
theorem conj_z (a b c d : Int) : pz a b c d a (-b) (-c) (-d) = 0 := by unfold pz; grind

/-! ### quaternions of whole numbers -/
structure Q4 where
  w : Int
  x : Int
  y : Int
  z : Int
theorem Q4.ext_ {p q : Q4} (h1 : p.w = q.w) (h2 : p.x = q.x) (h3 : p.y = q.y) (h4 : p.z = q.z) : p = q := by
  cases p; cases q; simp_all
def Q4.mul (p q : Q4) : Q4 := ⟨pw p.w p.x p.y p.z q.w q.x q.y q.z, px p.w p.x p.y p.z q.w q.x q.y q.z, py p.w p.x p.y p.z q.w q.x q.y q.z, pz p.w p.x p.y p.z q.w q.x q.y q.z⟩
def Q4.add (p q : Q4) : Q4 := ⟨p.w + q.w, p.x + q.x, p.y + q.y, p.z + q.z⟩
def Q4.sub (p q : Q4) : Q4 := ⟨p.w - q.w, p.x - q.x, p.y - q.y, p.z - q.z⟩
def Q4.conj (p : Q4) : Q4 := ⟨p.w, -p.x, -p.y, -p.z⟩
def Q4.smul (k : Int) (p : Q4) : Q4 := ⟨k * p.w, k * p.x, k * p.y, k * p.z⟩
def Q4.nm (p : Q4) : Int := sq4 p.w p.x p.y p.z
def Q4.vec (x y z : Int) : Q4 := ⟨0, x, y, z⟩
theorem Q4.mul_assoc (p q r : Q4) : (p.mul q).mul r = p.mul (q.mul r) := by
  refine Q4.ext_ ?_ ?_ ?_ ?_ <;> simp only [Q4.mul, pw, px, py, pz] <;> grind
theorem Q4.conj_mul (p q : Q4) : (p.mul q).conj = q.conj.mul p.conj := by
  refine Q4.ext_ ?_ ?_ ?_ ?_ <;> simp only [Q4.mul, Q4.conj, pw, px, py, pz] <;> grind
theorem Q4.conj_conj (p : Q4) : p.conj.conj = p := by
  refine Q4.ext_ ?_ ?_ ?_ ?_ <;> simp only [Q4.conj] <;> omega
theorem Q4.nm_mul (p q : Q4) : (p.mul q).nm = p.nm * q.nm := norm_mul _ _ _ _ _ _ _ _
theorem Q4.nm_conj (p : Q4) : p.conj.nm = p.nm := by simp only [Q4.nm, Q4.conj, sq4]; grind
theorem Q4.nm_smul (k : Int) (p : Q4) : (p.smul k).nm = k * k * p.nm := by simp only [Q4.nm, Q4.smul, sq4]; grind
theorem Q4.nm_nonneg (p : Q4) : 0 ≤ p.nm := sq4_nonneg _ _ _ _
theorem Q4.mul_conj (p : Q4) : p.mul p.conj = ⟨p.nm, 0, 0, 0⟩ := Q4.ext_ (conj_w _ _ _ _) (conj_x _ _ _ _) (conj_y _ _ _ _) (conj_z _ _ _ _)
theorem Q4.conj_mul_self (p : Q4) : p.conj.mul p = ⟨p.nm, 0, 0, 0⟩ := by
  have := Q4.mul_conj p.conj
  rwa [Q4.conj_conj, Q4.nm_conj] at this
theorem Q4.mul_smul (k : Int) (p q : Q4) : p.mul (q.smul k) = (p.mul q).smul k := by
  refine Q4.ext_ ?_ ?_ ?_ ?_ <;> simp only [Q4.mul, Q4.smul, pw, px, py, pz] <;> grind
theorem Q4.smul_mul (k : Int) (p q : Q4) : (p.smul k).mul q = (p.mul q).smul k := by
  refine Q4.ext_ ?_ ?_ ?_ ?_ <;> simp only [Q4.mul, Q4.smul, pw, px, py, pz] <;> grind
theorem Q4.smul_smul (k l : Int) (p : Q4) : (p.smul k).smul l = p.smul (l * k) := by
  refine Q4.ext_ ?_ ?_ ?_ ?_ <;> simp only [Q4.smul] <;> grind
theorem Q4.mul_sub (p q r : Q4) : p.mul (q.sub r) = (p.mul q).sub (p.mul r) := by
  refine Q4.ext_ ?_ ?_ ?_ ?_ <;> simp only [Q4.mul, Q4.sub, pw, px, py, pz] <;> grind
theorem Q4.sub_mul (p q r : Q4) : (p.sub q).mul r = (p.mul r).sub (q.mul r) := by
  refine Q4.ext_ ?_ ?_ ?_ ?_ <;> simp only [Q4.mul, Q4.sub, pw, px, py, pz] <;> grind
theorem Q4.mul_add (p q r : Q4) : p.mul (q.add r) = (p.mul q).add (p.mul r) := by
  refine Q4.ext_ ?_ ?_ ?_ ?_ <;> simp only [Q4.mul, Q4.add, pw, px, py, pz] <;> grind
theorem Q4.add_mul (p q r : Q4) : (p.add q).mul r = (p.mul r).add (q.mul r) := by
  refine Q4.ext_ ?_ ?_ ?_ ?_ <;> simp only [Q4.mul, Q4.add, pw, px, py, pz] <;> grind
theorem Q4.real_mul (k : Int) (p : Q4) : Q4.mul ⟨k, 0, 0, 0⟩ p = p.smul k := by
  refine Q4.ext_ ?_ ?_ ?_ ?_ <;> simp only [Q4.mul, Q4.smul, pw, px, py, pz] <;> grind
theorem Q4.mul_real (k : Int) (p : Q4) : p.mul ⟨k, 0, 0, 0⟩ = p.smul k := by
  refine Q4.ext_ ?_ ?_ ?_ ?_ <;> simp only [Q4.mul, Q4.smul, pw, px, py, pz] <;> grind
/-- q v conj(q). -/
def Q4.tn (q v : Q4) : Q4 := (q.mul v).mul q.conj
theorem Q4.tn_tn (p q v : Q4) : p.tn (q.tn v) = (p.mul q).tn v := by
  unfold Q4.tn; rw [Q4.conj_mul, Q4.mul_assoc, Q4.mul_assoc, Q4.mul_assoc, Q4.mul_assoc, Q4.mul_assoc]
theorem Q4.nm_tn (q v : Q4) : (q.tn v).nm = q.nm * q.nm * v.nm := by
  unfold Q4.tn; rw [Q4.nm_mul, Q4.nm_mul, Q4.nm_conj]; grind
theorem Q4.tn_smul (k : Int) (q v : Q4) : q.tn (v.smul k) = (q.tn v).smul k := by unfold Q4.tn; rw [Q4.mul_smul, Q4.smul_mul]
theorem Q4.smul_tn (k : Int) (q v : Q4) : (q.smul k).tn v = (q.tn v).smul (k * k) := by
  unfold Q4.tn
  have : (q.smul k).conj = q.conj.smul k := by refine Q4.ext_ ?_ ?_ ?_ ?_ <;> simp only [Q4.conj, Q4.smul] <;> grind
  rw [this, Q4.smul_mul, Q4.mul_smul, Q4.smul_mul, Q4.smul_smul]
theorem Q4.tn_add (q u v : Q4) : q.tn (u.add v) = (q.tn u).add (q.tn v) := by unfold Q4.tn; rw [Q4.mul_add, Q4.add_mul]
theorem Q4.tn_sub (q u v : Q4) : q.tn (u.sub v) = (q.tn u).sub (q.tn v) := by unfold Q4.tn; rw [Q4.mul_sub, Q4.sub_mul]
theorem Q4.tn_w (q : Q4) (x y z : Int) : (q.tn (Q4.vec x y z)).w = 0 := by
  simp only [Q4.tn, Q4.mul, Q4.conj, Q4.vec, pw, px, py, pz]; grind
/-- How far two turns are apart: those of P and of P + E. -/
theorem turn_apart (P E : Q4) (a b c : Int) :
    (((P.add E).tn (Q4.vec a b c)).smul P.nm |>.sub ((P.tn (Q4.vec a b c)).smul (P.add E).nm)).nm ≤ 4 * (P.nm * (P.add E).nm) * (P.nm * E.nm) * (a * a + b * b + c * c) := by
  obtain ⟨Q, hQ⟩ : ∃ Q, Q = P.add E := ⟨_, rfl⟩
  obtain ⟨v, hv⟩ : ∃ v, v = Q4.vec a b c := ⟨_, rfl⟩
  obtain ⟨q, hq⟩ : ∃ q, q = P.conj.mul Q := ⟨_, rfl⟩
  obtain ⟨D, hD⟩ : ∃ D, D = ((Q.tn v).smul P.nm).sub ((P.tn v).smul Q.nm) := ⟨_, rfl⟩
  rw [← hQ, ← hv, ← hD]
  have hPq : P.mul q = Q.smul P.nm := by rw [hq, ← Q4.mul_assoc, Q4.mul_conj, Q4.real_mul]
  have hqn : q.nm = P.nm * Q.nm := by rw [hq, Q4.nm_mul, Q4.nm_conj]
  have h0 := P.nm_nonneg
  have h1 := Q.nm_nonneg
  have h2 := E.nm_nonneg
  have hv2 : v.nm = a * a + b * b + c * c := by rw [hv]; simp [Q4.nm, Q4.vec, sq4]
  have hv0 := v.nm_nonneg
  rcases Int.lt_or_le 0 P.nm with hp | hp
  · have k1 : (D.smul (P.nm)) = P.tn ((q.tn v).sub (v.smul q.nm)) := by
      have e1 : (P.mul q).tn v = (Q.tn v).smul (P.nm * P.nm) := by rw [hPq, Q4.smul_tn]
      rw [Q4.tn_sub, Q4.tn_tn, e1, Q4.tn_smul, hqn, hD]
      refine Q4.ext_ ?_ ?_ ?_ ?_ <;> simp only [Q4.smul, Q4.sub] <;> grind
    have k2 : (q.tn v).sub (v.smul q.nm) = q.mul ((v.mul q.conj).sub (q.conj.mul v)) := by
      rw [Q4.mul_sub, ← Q4.mul_assoc, ← Q4.mul_assoc, Q4.mul_conj, Q4.real_mul]; rfl
    have k3 : ((v.mul q.conj).sub (q.conj.mul v)).nm ≤ 4 * (q.x * q.x + q.y * q.y + q.z * q.z) * v.nm := by
      rw [hv2, hv]
      simp only [Q4.nm, Q4.sub, Q4.mul, Q4.conj, Q4.vec, pw, px, py, pz, sq4]
      have := sq_nonneg (q.x * a + q.y * b + q.z * c)
      grind
    have k4 : q.x * q.x + q.y * q.y + q.z * q.z ≤ P.nm * E.nm := by
      have e : P.conj.mul Q = (⟨P.nm, 0, 0, 0⟩ : Q4).add (P.conj.mul E) := by rw [hQ, Q4.mul_add, Q4.conj_mul_self]
      have e2 := Q4.nm_mul P.conj E
      rw [Q4.nm_conj] at e2
      rw [← e2, hq, e]
      simp only [Q4.add, Q4.nm, sq4]
      have := sq_nonneg (P.conj.mul E).w
      grind
    have k5 : D.nm = q.nm * ((v.mul q.conj).sub (q.conj.mul v)).nm := by
      have := congrArg Q4.nm k1
      rw [Q4.nm_smul, Q4.nm_tn, k2, Q4.nm_mul] at this
      exact Int.eq_of_mul_eq_mul_left (Int.mul_ne_zero (by omega) (by omega)) this
    rw [k5, hqn, ← hv2]
    have k6 : 4 * (q.x * q.x + q.y * q.y + q.z * q.z) * v.nm ≤ 4 * (P.nm * E.nm) * v.nm := Int.mul_le_mul_of_nonneg_right (by omega) hv0
    have k7 : P.nm * Q.nm * ((v.mul q.conj).sub (q.conj.mul v)).nm ≤ P.nm * Q.nm * (4 * (P.nm * E.nm) * v.nm) := Int.mul_le_mul_of_nonneg_left (by omega) (Int.mul_nonneg h0 h1)
    have e3 : 4 * (P.nm * Q.nm) * (P.nm * E.nm) * v.nm = P.nm * Q.nm * (4 * (P.nm * E.nm) * v.nm) := by grind
    omega
  · have hp0 : P.nm = 0 := by omega
    have P0 : P.w = 0 ∧ P.x = 0 ∧ P.y = 0 ∧ P.z = 0 := by
      refine Classical.byContradiction fun hn => ?_
      have := sq4_pos hn
      unfold Q4.nm at hp0; omega
    have : D.nm = 0 := by
      have e : P = ⟨0, 0, 0, 0⟩ := Q4.ext_ P0.1 P0.2.1 P0.2.2.1 P0.2.2.2
      have e2 : P.tn v = ⟨0, 0, 0, 0⟩ := by rw [e]; refine Q4.ext_ ?_ ?_ ?_ ?_ <;> simp only [Q4.tn, Q4.mul, Q4.conj, pw, px, py, pz] <;> grind
      rw [hD, hp0, e2]; simp [Q4.nm, Q4.sub, Q4.smul, sq4]
    rw [this, hp0]; simp

theorem Q4.parts (p : Q4) (e : Int) (h : p.nm ≤ e * e) (he : 0 ≤ e) : (-e ≤ p.w ∧ p.w ≤ e) ∧ (-e ≤ p.x ∧ p.x ≤ e) ∧ (-e ≤ p.y ∧ p.y ≤ e) ∧ (-e ≤ p.z ∧ p.z ≤ e) := part_le _ _ _ _ e h he
/-- A vector turned, each number rounded. -/
def turnX (q : Q4) (a b c : Int) : Int := rnd (q.tn (Q4.vec a b c)).x q.nm
def turnY (q : Q4) (a b c : Int) : Int := rnd (q.tn (Q4.vec a b c)).y q.nm
def turnZ (q : Q4) (a b c : Int) : Int := rnd (q.tn (Q4.vec a b c)).z q.nm
theorem Q4.nm_vec (a b c : Int) : (Q4.vec a b c).nm = a * a + b * b + c * c := by simp [Q4.nm, Q4.vec, sq4]
theorem rnd_bd {T n K : Int} (hn : 0 < n) (h1 : -(n * K) ≤ T) (h2 : T ≤ n * K) : -K ≤ rnd T n ∧ rnd T n ≤ K := by
  have h := rnd_near T n hn
  generalize rnd T n = x at *
  constructor
  · refine Classical.byContradiction fun hk => ?_
    have : x * n ≤ (-K - 1) * n := Int.mul_le_mul_of_nonneg_right (by omega) (by omega)
    have e : (-K - 1) * n = -(n * K) - n := by grind
    omega
  · refine Classical.byContradiction fun hk => ?_
    have : (K + 1) * n ≤ x * n := Int.mul_le_mul_of_nonneg_right (by omega) (by omega)
    have e : (K + 1) * n = n * K + n := by grind
    omega
theorem Q4.tn_parts (q v : Q4) (K : Int) (h : v.nm ≤ K * K) (hK : 0 ≤ K) : (-(q.nm * K) ≤ (q.tn v).w ∧ (q.tn v).w ≤ q.nm * K) ∧ (-(q.nm * K) ≤ (q.tn v).x ∧ (q.tn v).x ≤ q.nm * K) ∧ (-(q.nm * K) ≤ (q.tn v).y ∧ (q.tn v).y ≤ q.nm * K) ∧ (-(q.nm * K) ≤ (q.tn v).z ∧ (q.tn v).z ≤ q.nm * K) := by
  have h0 := q.nm_nonneg
  refine Q4.parts (q.tn v) (q.nm * K) ?_ (Int.mul_nonneg h0 hK)
  rw [Q4.nm_tn]
  have := Int.mul_le_mul_of_nonneg_left h (Int.mul_nonneg h0 h0)
  have e : q.nm * K * (q.nm * K) = q.nm * q.nm * (K * K) := by grind
  omega
theorem turn_bd (q : Q4) (a b c K : Int) (hq : 0 < q.nm) (h : a * a + b * b + c * c ≤ K * K) (hK : 0 ≤ K) : (-K ≤ turnX q a b c ∧ turnX q a b c ≤ K) ∧ (-K ≤ turnY q a b c ∧ turnY q a b c ≤ K) ∧ (-K ≤ turnZ q a b c ∧ turnZ q a b c ≤ K) := by
  obtain ⟨_, h1, h2, h3⟩ := Q4.tn_parts q (Q4.vec a b c) K (by rw [Q4.nm_vec]; exact h) hK
  exact ⟨rnd_bd hq h1.1 h1.2, rnd_bd hq h2.1 h2.2, rnd_bd hq h3.1 h3.2⟩
theorem chain_one (x t NP Nc Na Nb C P aty ate : Int) (hNP : NP = Na * Nb) (ha : 0 < Na) (hb : 0 < Nb) (hc : 0 < Nc) (hx1 : -Nc ≤ 2 * (x * Nc - C)) (hx2 : 2 * (x * Nc - C) ≤ Nc)
    (ht1 : -Na ≤ 2 * (t * Na - aty)) (ht2 : 2 * (t * Na - aty) ≤ Na) (he : Nb * aty = P + ate) (he1 : -(Na * Nb) ≤ ate) (he2 : ate ≤ Na * Nb)
    (hd1 : -(4 * (NP * Nc)) ≤ C * NP - P * Nc) (hd2 : C * NP - P * Nc ≤ 4 * (NP * Nc)) : -6 ≤ x - t ∧ x - t ≤ 6 := by
  have hp : 0 < NP := by rw [hNP]; exact Int.mul_pos ha hb
  have hpc := Int.mul_pos hp hc
  have a1 : -(Nc * NP) ≤ 2 * (x * Nc - C) * NP ∧ 2 * (x * Nc - C) * NP ≤ Nc * NP := by
    have := Int.mul_le_mul_of_nonneg_right hx1 (Int.le_of_lt hp)
    have := Int.mul_le_mul_of_nonneg_right hx2 (Int.le_of_lt hp)
    rw [Int.neg_mul] at *
    omega
  have a2 : -NP ≤ 2 * (t * Na - aty) * Nb ∧ 2 * (t * Na - aty) * Nb ≤ NP := by
    have h1 := Int.mul_le_mul_of_nonneg_right ht1 (Int.le_of_lt hb)
    have h2 := Int.mul_le_mul_of_nonneg_right ht2 (Int.le_of_lt hb)
    rw [Int.neg_mul] at *
    omega
  have a3 : 2 * (t * Na - aty) * Nb = 2 * (t * NP) - 2 * P - 2 * ate := by
    have : 2 * (t * Na - aty) * Nb = 2 * (t * (Na * Nb)) - 2 * (Nb * aty) := by grind
    rw [this, he, hNP]; grind
  have a4 : -3 * NP ≤ 2 * (t * NP) - 2 * P ∧ 2 * (t * NP) - 2 * P ≤ 3 * NP := by rw [← hNP] at he1 he2; omega
  have a5 : -3 * NP * Nc ≤ (2 * (t * NP) - 2 * P) * Nc ∧ (2 * (t * NP) - 2 * P) * Nc ≤ 3 * NP * Nc :=
    ⟨Int.mul_le_mul_of_nonneg_right a4.1 (by omega), Int.mul_le_mul_of_nonneg_right a4.2 (by omega)⟩
  have e : 2 * ((x - t) * (NP * Nc)) = 2 * (x * Nc - C) * NP + 2 * (C * NP - P * Nc) - (2 * (t * NP) - 2 * P) * Nc := by grind
  have e1 : -3 * NP * Nc = -3 * (NP * Nc) := by grind
  have e2 : 3 * NP * Nc = 3 * (NP * Nc) := by grind
  have e3 : Nc * NP = NP * Nc := Int.mul_comm _ _
  rw [e1, e2] at a5
  rw [e3] at a1
  have f : (-6) * (NP * Nc) ≤ (x - t) * (NP * Nc) ∧ (x - t) * (NP * Nc) ≤ 6 * (NP * Nc) := by omega
  exact ⟨Int.le_of_mul_le_mul_right f.1 hpc, Int.le_of_mul_le_mul_right f.2 hpc⟩
/-- A product of two, each number told. -/
def Q4.prod (p q : Q4) : Q4 := ⟨rnd (p.mul q).w (2 ^ 30), rnd (p.mul q).x (2 ^ 30), rnd (p.mul q).y (2 ^ 30), rnd (p.mul q).z (2 ^ 30)⟩
/-- Near to a unit. -/
def Q4.one_ (e : Int) (p : Q4) : Prop := -e ≤ p.nm - 2 ^ 60 ∧ p.nm - 2 ^ 60 ≤ e
theorem prod_one {p q : Q4} (hp : p.one_ 2147483650) (hq : q.one_ 2147483650) : (p.prod q).one_ (2 ^ 33) := unit_product _ _ _ _ _ _ _ _ hp.1 hp.2 hq.1 hq.2
theorem prod_err (p q : Q4) : ∃ E : Q4, (p.prod q).smul (2 ^ 30) = (p.mul q).add E ∧ E.nm ≤ 2 ^ 60 := by
  refine ⟨((p.prod q).smul (2 ^ 30)).sub (p.mul q), ?_, ?_⟩
  · refine Q4.ext_ ?_ ?_ ?_ ?_ <;> simp only [Q4.add, Q4.sub] <;> omega
  · have h1 := rnd_near (p.mul q).w (2 ^ 30) (by decide)
    have h2 := rnd_near (p.mul q).x (2 ^ 30) (by decide)
    have h3 := rnd_near (p.mul q).y (2 ^ 30) (by decide)
    have h4 := rnd_near (p.mul q).z (2 ^ 30) (by decide)
    simp only [Q4.nm, Q4.sub, Q4.smul, Q4.prod, sq4]
    have P : ∀ x : Int, -2 ^ 30 ≤ 2 * x → 2 * x ≤ 2 ^ 30 → x * x ≤ 2 ^ 58 := fun x hx hy => by
      have := (mul_bd (x := x) (y := x) (p := 2 ^ 29) (q := 2 ^ 29) (ab_le_of (by omega) (by omega)) (ab_le_of (by omega) (by omega))).2
      omega
    have e1 := P (2 ^ 30 * rnd (p.mul q).w (2 ^ 30) - (p.mul q).w) (by omega) (by omega)
    have e2 := P (2 ^ 30 * rnd (p.mul q).x (2 ^ 30) - (p.mul q).x) (by omega) (by omega)
    have e3 := P (2 ^ 30 * rnd (p.mul q).y (2 ^ 30) - (p.mul q).y) (by omega) (by omega)
    have e4 := P (2 ^ 30 * rnd (p.mul q).z (2 ^ 30) - (p.mul q).z) (by omega) (by omega)
    omega
/-- By a product as by one and then the other, but for six. -/
theorem chain (p q : Q4) (a b c : Int) (hp : p.one_ 2147483650) (hq : q.one_ 2147483650) (hv : a * a + b * b + c * c ≤ 3 * 2 ^ 60) :
    (-6 ≤ turnX (p.prod q) a b c - turnX p (turnX q a b c) (turnY q a b c) (turnZ q a b c) ∧ turnX (p.prod q) a b c - turnX p (turnX q a b c) (turnY q a b c) (turnZ q a b c) ≤ 6) ∧
    (-6 ≤ turnY (p.prod q) a b c - turnY p (turnX q a b c) (turnY q a b c) (turnZ q a b c) ∧ turnY (p.prod q) a b c - turnY p (turnX q a b c) (turnY q a b c) (turnZ q a b c) ≤ 6) ∧
    (-6 ≤ turnZ (p.prod q) a b c - turnZ p (turnX q a b c) (turnY q a b c) (turnZ q a b c) ∧ turnZ (p.prod q) a b c - turnZ p (turnX q a b c) (turnY q a b c) (turnZ q a b c) ≤ 6) := by
  have hc := prod_one hp hq
  obtain ⟨E, hE, hE2⟩ := prod_err p q
  obtain ⟨C, hC⟩ : ∃ C, C = p.prod q := ⟨_, rfl⟩
  rw [← hC] at hc hE ⊢
  obtain ⟨v, hvv⟩ : ∃ v, v = Q4.vec a b c := ⟨_, rfl⟩
  have hvn : v.nm ≤ 3 * 2 ^ 60 := by rw [hvv, Q4.nm_vec]; exact hv
  obtain ⟨y, hy⟩ : ∃ y, y = Q4.vec (turnX q a b c) (turnY q a b c) (turnZ q a b c) := ⟨_, rfl⟩
  unfold Q4.one_ at hp hq hc
  have hp0 : 0 < p.nm := by omega
  have hq0 : 0 < q.nm := by omega
  have hc0 : 0 < C.nm := by omega
  obtain ⟨e, he⟩ : ∃ e, e = (y.smul q.nm).sub (q.tn v) := ⟨_, rfl⟩
  have hen : 4 * e.nm ≤ 3 * (q.nm * q.nm) := by
    have h1 := rnd_near (q.tn v).x q.nm hq0
    have h2 := rnd_near (q.tn v).y q.nm hq0
    have h3 := rnd_near (q.tn v).z q.nm hq0
    have h0 : (q.tn v).w = 0 := by rw [hvv]; exact Q4.tn_w _ _ _ _
    have P : ∀ z t : Int, -q.nm ≤ 2 * (z * q.nm - t) → 2 * (z * q.nm - t) ≤ q.nm → 4 * ((q.nm * z - t) * (q.nm * z - t)) ≤ q.nm * q.nm := fun z t hx hy => by
      have := (mul_bd (x := 2 * (z * q.nm - t)) (y := 2 * (z * q.nm - t)) (ab_le_of hx hy) (ab_le_of hx hy)).2
      have e : 2 * (z * q.nm - t) * (2 * (z * q.nm - t)) = 4 * ((q.nm * z - t) * (q.nm * z - t)) := by grind
      omega
    have p1 := P _ _ h1.1 h1.2
    have p2 := P _ _ h2.1 h2.2
    have p3 := P _ _ h3.1 h3.2
    have e4 : e.nm = sq4 (q.nm * 0 - (q.tn v).w) (q.nm * rnd (q.tn v).x q.nm - (q.tn v).x) (q.nm * rnd (q.tn v).y q.nm - (q.tn v).y) (q.nm * rnd (q.tn v).z q.nm - (q.tn v).z) := by
      rw [he, hy]; simp only [turnX, turnY, turnZ]; rw [← hvv]; rfl
    rw [e4, h0]
    unfold sq4
    simp only [Int.mul_zero, Int.sub_zero]
    omega
  have hte : (p.tn y).smul q.nm = ((p.mul q).tn v).add (p.tn e) := by
    rw [he, Q4.tn_sub, Q4.tn_tn, Q4.tn_smul]
    refine Q4.ext_ ?_ ?_ ?_ ?_ <;> simp only [Q4.add, Q4.sub] <;> omega
  have hK : e.nm ≤ q.nm * q.nm := by have := Int.mul_nonneg (Int.le_of_lt hq0) (Int.le_of_lt hq0); omega
  obtain ⟨_, t1, t2, t3⟩ := Q4.tn_parts p e q.nm hK (by omega)
  have hPn : (p.mul q).nm = p.nm * q.nm := Q4.nm_mul p q
  -- the two turns
  have hA := turn_apart (p.mul q) E a b c
  rw [← hE, ← hvv, Q4.smul_tn, Q4.nm_smul, Q4.smul_smul, hPn] at hA
  obtain ⟨D, hD⟩ : ∃ D, D = ((C.tn v).smul (p.nm * q.nm)).sub (((p.mul q).tn v).smul C.nm) := ⟨_, rfl⟩
  have hDD : ((C.tn v).smul (p.nm * q.nm * (2 ^ 30 * 2 ^ 30))).sub (((p.mul q).tn v).smul (2 ^ 30 * 2 ^ 30 * C.nm)) = D.smul (2 ^ 60) := by
    rw [hD]
    refine Q4.ext_ ?_ ?_ ?_ ?_ <;> simp only [Q4.smul, Q4.sub] <;> grind
  rw [hDD, Q4.nm_smul] at hA
  obtain ⟨NP, hNP⟩ : ∃ NP, NP = p.nm * q.nm := ⟨_, rfl⟩
  have hNP0 : 0 < NP := by rw [hNP]; exact Int.mul_pos hp0 hq0
  have hDn : D.nm ≤ (4 * (NP * C.nm)) * (4 * (NP * C.nm)) := by
    rw [← hNP] at hA
    have hNN := Int.mul_nonneg (Int.mul_nonneg (Int.le_of_lt hNP0) (Int.le_of_lt hNP0)) (Int.le_of_lt hc0)
    have s1 : E.nm * (a * a + b * b + c * c) ≤ 2 ^ 60 * (3 * 2 ^ 60) := Int.mul_le_mul hE2 hv (by have := v.nm_nonneg; rw [hvv, Q4.nm_vec] at this; exact this) (by decide)
    have s2 := Int.mul_le_mul_of_nonneg_left s1 hNN
    have s3 : 4 * (NP * (2 ^ 30 * 2 ^ 30 * C.nm)) * (NP * E.nm) * (a * a + b * b + c * c) = 4 * 2 ^ 60 * (NP * NP * C.nm * (E.nm * (a * a + b * b + c * c))) := by grind
    have s4 : 4 * (NP * C.nm) * (4 * (NP * C.nm)) = 16 * (NP * NP * C.nm) * C.nm := by grind
    have s5 : (NP * NP * C.nm) * (3 * 2 ^ 60) ≤ (NP * NP * C.nm) * (4 * C.nm) := Int.mul_le_mul_of_nonneg_left (by omega) hNN
    rw [s3] at hA
    rw [s4]
    generalize NP * NP * C.nm = M at *
    generalize E.nm * (a * a + b * b + c * c) = F at *
    have s6 : M * (4 * C.nm) = 4 * (M * C.nm) := by grind
    have s7 : 16 * M * C.nm = 16 * (M * C.nm) := by grind
    generalize M * C.nm = MC at *
    generalize M * F = MF at *
    omega
  obtain ⟨_, d1, d2, d3⟩ := Q4.parts D _ hDn (Int.mul_nonneg (by decide) (Int.mul_nonneg (Int.le_of_lt hNP0) (Int.le_of_lt hc0)))
  have x1 := rnd_near (C.tn v).x C.nm hc0
  have x2 := rnd_near (C.tn v).y C.nm hc0
  have x3 := rnd_near (C.tn v).z C.nm hc0
  have y1 := rnd_near (p.tn y).x p.nm hp0
  have y2 := rnd_near (p.tn y).y p.nm hp0
  have y3 := rnd_near (p.tn y).z p.nm hp0
  have g1 := congrArg Q4.x hte
  have g2 := congrArg Q4.y hte
  have g3 := congrArg Q4.z hte
  simp only [Q4.smul, Q4.add] at g1 g2 g3
  simp only [turnX, turnY, turnZ] at hy ⊢
  rw [← hvv] at hy ⊢
  rw [← hy]
  rw [hD] at d1 d2 d3
  simp only [Q4.sub, Q4.smul] at d1 d2 d3
  rw [← hNP] at d1 d2 d3
  refine ⟨chain_one _ _ NP C.nm p.nm q.nm _ _ _ _ hNP hp0 hq0 hc0 x1.1 x1.2 y1.1 y1.2 g1 t1.1 t1.2 (by have := Int.mul_comm NP (C.tn v).x; have := Int.mul_comm C.nm ((p.mul q).tn v).x; omega) (by have := Int.mul_comm NP (C.tn v).x; have := Int.mul_comm C.nm ((p.mul q).tn v).x; omega),
    chain_one _ _ NP C.nm p.nm q.nm _ _ _ _ hNP hp0 hq0 hc0 x2.1 x2.2 y2.1 y2.2 g2 t2.1 t2.2 (by have := Int.mul_comm NP (C.tn v).y; have := Int.mul_comm C.nm ((p.mul q).tn v).y; omega) (by have := Int.mul_comm NP (C.tn v).y; have := Int.mul_comm C.nm ((p.mul q).tn v).y; omega),
    chain_one _ _ NP C.nm p.nm q.nm _ _ _ _ hNP hp0 hq0 hc0 x3.1 x3.2 y3.1 y3.2 g3 t3.1 t3.2 (by have := Int.mul_comm NP (C.tn v).z; have := Int.mul_comm C.nm ((p.mul q).tn v).z; omega) (by have := Int.mul_comm NP (C.tn v).z; have := Int.mul_comm C.nm ((p.mul q).tn v).z; omega)⟩

end Go.Proofs.Ytcabnnfhcolcfaa
