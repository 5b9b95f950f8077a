/- Plain numbers: sizes of quaternions; units by roots; spun and spun back. No program. -/
import Derived.Test.YtcabnnfhcolcfaaQ1
namespace Go.Proofs.Ytcabnnfhcolcfaa
set_option linter.unusedSimpArgs false
set_option linter.unusedVariables false
/-! ### sizes -/
/-- At most K long. -/
structure Q4.sz (p : Q4) (K : Int) : Prop where
  nn : 0 ≤ K
  le : p.nm ≤ K * K
def Q4.dot (p q : Q4) : Int := p.w * q.w + p.x * q.x + p.y * q.y + p.z * q.z
theorem Q4.cauchy (p q : Q4) : p.dot q * p.dot q ≤ p.nm * q.nm := by
  have h1 := sq_nonneg (p.w * q.x - p.x * q.w)
  have h2 := sq_nonneg (p.w * q.y - p.y * q.w)
  have h3 := sq_nonneg (p.w * q.z - p.z * q.w)
  have h4 := sq_nonneg (p.x * q.y - p.y * q.x)
  have h5 := sq_nonneg (p.x * q.z - p.z * q.x)
  have h6 := sq_nonneg (p.y * q.z - p.z * q.y)
  simp only [Q4.dot, Q4.nm, sq4]
  grind
theorem Q4.sz.dot {p q : Q4} {K L : Int} (h : p.sz K) (k : q.sz L) : -(K * L) ≤ p.dot q ∧ p.dot q ≤ K * L := by
  have hc := Q4.cauchy p q
  have h1 : p.nm * q.nm ≤ (K * K) * (L * L) := Int.mul_le_mul h.le k.le (Q4.nm_nonneg _) (Int.mul_nonneg h.nn h.nn)
  have h2 : ab (p.dot q) ≤ K * L := by
    refine sq_le (Int.mul_nonneg h.nn k.nn) ?_
    rw [ab_sq]
    have : K * L * (K * L) = (K * K) * (L * L) := by grind
    omega
  have := le_ab (p.dot q)
  have := neg_ab_le (p.dot q)
  omega
theorem Q4.sz.add {p q : Q4} {K L : Int} (h : p.sz K) (k : q.sz L) : (p.add q).sz (K + L) := by
  refine ⟨by have := h.nn; have := k.nn; omega, ?_⟩
  have hd := (h.dot k).2
  have e : (p.add q).nm = p.nm + q.nm + 2 * p.dot q := by simp only [Q4.nm, Q4.add, Q4.dot, sq4]; grind
  have e2 : (K + L) * (K + L) = K * K + L * L + 2 * (K * L) := by grind
  have := h.le
  have := k.le
  omega
theorem Q4.sz.mul {p q : Q4} {K L : Int} (h : p.sz K) (k : q.sz L) : (p.mul q).sz (K * L) := by
  refine ⟨Int.mul_nonneg h.nn k.nn, ?_⟩
  rw [Q4.nm_mul]
  have h1 : p.nm * q.nm ≤ (K * K) * (L * L) := Int.mul_le_mul h.le k.le (Q4.nm_nonneg _) (Int.mul_nonneg h.nn h.nn)
  have : K * L * (K * L) = (K * K) * (L * L) := by grind
  omega
theorem Q4.sz.conj {p : Q4} {K : Int} (h : p.sz K) : p.conj.sz K := ⟨h.nn, by rw [Q4.nm_conj]; exact h.le⟩
theorem Q4.sz.smul {p : Q4} {K : Int} (h : p.sz K) (k : Int) : (p.smul k).sz (ab k * K) := by
  refine ⟨Int.mul_nonneg (ab_nonneg k) h.nn, ?_⟩
  rw [Q4.nm_smul]
  have e : ab k * K * (ab k * K) = (ab k * ab k) * (K * K) := by grind
  rw [e, ab_sq]
  exact Int.mul_le_mul_of_nonneg_left h.le (sq_nonneg k)
theorem Q4.sz.pos {p : Q4} {K : Int} (h : p.sz K) {k : Int} (hk : 0 ≤ k) : (p.smul k).sz (k * K) := by
  have := h.smul k
  rwa [show ab k = k by unfold ab; split <;> omega] at this
theorem Q4.sub_eq (p q : Q4) : p.sub q = p.add (q.smul (-1)) := by
  refine Q4.ext_ ?_ ?_ ?_ ?_ <;> simp only [Q4.sub, Q4.add, Q4.smul] <;> omega
theorem Q4.sz.sub {p q : Q4} {K L : Int} (h : p.sz K) (k : q.sz L) : (p.sub q).sz (K + L) := by
  rw [Q4.sub_eq]
  have := h.add (k.smul (-1))
  rwa [show ab (-1) * L = L by rw [show ab (-1) = 1 by decide]; omega] at this
theorem Q4.sz.mono {p : Q4} {K L : Int} (h : p.sz K) (hl : K ≤ L) : p.sz L := ⟨by have := h.nn; omega, by
  have := Int.mul_le_mul hl hl h.nn (by have := h.nn; omega)
  have := h.le
  omega⟩
theorem Q4.sz.part {p : Q4} {K : Int} (h : p.sz K) : (-K ≤ p.w ∧ p.w ≤ K) ∧ (-K ≤ p.x ∧ p.x ≤ K) ∧ (-K ≤ p.y ∧ p.y ≤ K) ∧ (-K ≤ p.z ∧ p.z ≤ K) := Q4.parts p K h.le h.nn
/-- Four numbers at most k each. -/
theorem Q4.sz_of (p : Q4) (k : Int) (h : ab p.w ≤ k ∧ ab p.x ≤ k ∧ ab p.y ≤ k ∧ ab p.z ≤ k) : p.sz (2 * k) := by
  have h0 := ab_nonneg p.w
  refine ⟨by omega, ?_⟩
  have P : ∀ x : Int, ab x ≤ k → x * x ≤ k * k := fun x hx => by
    rw [← ab_sq]; exact Int.mul_le_mul hx hx (ab_nonneg x) (by omega)
  have := P _ h.1
  have := P _ h.2.1
  have := P _ h.2.2.1
  have := P _ h.2.2.2
  have e : 2 * k * (2 * k) = 4 * (k * k) := by grind
  unfold Q4.nm sq4
  omega
/-- Divided: a common factor of both sides. -/
theorem Q4.sz.of_smul {p : Q4} {K k : Int} (hk : 0 < k) (hK : 0 ≤ K) (h : (p.smul k).sz (k * K)) : p.sz K := by
  refine ⟨hK, ?_⟩
  have := h.le
  rw [Q4.nm_smul, show k * K * (k * K) = k * k * (K * K) by grind] at this
  exact Int.le_of_mul_le_mul_left this (Int.mul_pos hk hk)
/-- A turned vector's length. -/
theorem Q4.sz.tn {q v : Q4} {K : Int} (h : v.sz K) : (q.tn v).sz (q.nm * K) := by
  refine ⟨Int.mul_nonneg q.nm_nonneg h.nn, ?_⟩
  rw [Q4.nm_tn]
  have := Int.mul_le_mul_of_nonneg_left h.le (Int.mul_nonneg q.nm_nonneg q.nm_nonneg)
  have e : q.nm * K * (q.nm * K) = q.nm * q.nm * (K * K) := by grind
  omega
/-! ### units, with the root told by a whole number -/
def Q4.unit (p : Q4) : Q4 := ⟨share p.w p.nm, share p.x p.nm, share p.y p.nm, share p.z p.nm⟩
theorem unit_one (p : Q4) (h : 0 < p.nm) : p.unit.one_ 2147483650 := unit_squares p.w p.x p.y p.z p.nm rfl h
/-- The root of n, 2^40 times. -/
def root40 (n : Int) : Int := fl (n * 2 ^ 80)
theorem share_root (x n c r : Int) (hn : 0 < n) (hc : share x n = c) (hr : root40 n = r) : ab (2 * (r * c - 2 ^ 70 * x)) ≤ r + 2 * ab c + 1 := by
  have hq := Int.mul_nonneg (sq_nonneg x) (show (0 : Int) ≤ 2 ^ 60 by decide)
  obtain ⟨h0, h1, h2⟩ := near_spec (x * x * 2 ^ 60) n hq hn
  have hac : ab c = near (x * x * 2 ^ 60) n := by rw [← hc, ab_share x n hn]
  rw [← hac] at h0 h1 h2
  obtain ⟨k0, k1, k2⟩ := fl_spec (n * 2 ^ 80) (Int.mul_nonneg (by omega) (by decide))
  have hr' : fl (n * 2 ^ 80) = r := hr
  rw [hr'] at k0 k1 k2
  have hx := ab_nonneg x
  have hsx : x * x = ab x * ab x := (ab_sq x).symm
  -- both bounds, of sizes
  have b1 : 2 ^ 71 * ab x ≤ (2 * ab c + 1) * (r + 1) := by
    refine sq_le (Int.mul_nonneg (by omega) (by omega)) ?_
    have e1 : 2 ^ 71 * ab x * (2 ^ 71 * ab x) = 4 * (x * x * 2 ^ 60) * 2 ^ 80 := by rw [hsx]; grind
    have e2 : (2 * ab c + 1) * (r + 1) * ((2 * ab c + 1) * (r + 1)) = (2 * ab c + 1) * (2 * ab c + 1) * ((r + 1) * (r + 1)) := by grind
    have e3 : (2 * ab c + 1) * (2 * ab c + 1) * n * 2 ^ 80 = (2 * ab c + 1) * (2 * ab c + 1) * (n * 2 ^ 80) := by grind
    have l1 := Int.mul_le_mul_of_nonneg_right h1 (show (0 : Int) ≤ 2 ^ 80 by decide)
    have l2 : (2 * ab c + 1) * (2 * ab c + 1) * (n * 2 ^ 80) ≤ (2 * ab c + 1) * (2 * ab c + 1) * ((r + 1) * (r + 1)) := Int.mul_le_mul_of_nonneg_left (by omega) (sq_nonneg _)
    rw [e1, e2]
    omega
  have b2 : (2 * ab c - 1) * r ≤ 2 ^ 71 * ab x := by
    rcases Int.lt_or_le 0 (ab c) with h | h
    · refine sq_le (Int.mul_nonneg (by decide) hx) ?_
      have e1 : 2 ^ 71 * ab x * (2 ^ 71 * ab x) = 4 * (x * x * 2 ^ 60) * 2 ^ 80 := by rw [hsx]; grind
      have e2 : (2 * ab c - 1) * r * ((2 * ab c - 1) * r) = (2 * ab c - 1) * (2 * ab c - 1) * (r * r) := by grind
      have e3 : (2 * ab c - 1) * (2 * ab c - 1) * n * 2 ^ 80 = (2 * ab c - 1) * (2 * ab c - 1) * (n * 2 ^ 80) := by grind
      have l1 := Int.mul_le_mul_of_nonneg_right (h2 h) (show (0 : Int) ≤ 2 ^ 80 by decide)
      have l2 : (2 * ab c - 1) * (2 * ab c - 1) * (r * r) ≤ (2 * ab c - 1) * (2 * ab c - 1) * (n * 2 ^ 80) := Int.mul_le_mul_of_nonneg_left k1 (sq_nonneg _)
      rw [e1, e2]
      omega
    · have e : ab c = 0 := by omega
      rw [e]
      have := Int.mul_nonneg (show (0 : Int) ≤ 2 ^ 71 by decide) hx
      omega
  have e1 : (2 * ab c + 1) * (r + 1) = 2 * (r * ab c) + r + 2 * ab c + 1 := by grind
  have e2 : (2 * ab c - 1) * r = 2 * (r * ab c) - r := by grind
  rw [e1] at b1
  rw [e2] at b2
  have key : ab (2 * (r * c - 2 ^ 70 * x)) = ab (2 * (r * ab c - 2 ^ 70 * ab x)) := by
    unfold share at hc
    rcases Int.lt_or_le x 0 with h | h
    · rw [if_pos h] at hc
      have hc2 : c = -ab c := by rw [hac]; omega
      have hx2 : ab x = -x := by unfold ab; rw [if_pos h]
      have : 2 * (r * c - 2 ^ 70 * x) = -(2 * (r * ab c - 2 ^ 70 * ab x)) := by
        conv => lhs; rw [hc2]
        rw [hx2]; grind
      rw [this]; unfold ab; split <;> split <;> omega
    · rw [if_neg (by omega)] at hc
      have hc2 : ab c = c := by rw [hac]; omega
      have hx2 : ab x = x := by unfold ab; rw [if_neg (by omega)]
      rw [hc2, hx2]
  rw [key]
  refine ab_le_of ?_ ?_ <;> omega
theorem root40_spec (n : Int) (h : 0 ≤ n) : 0 ≤ root40 n ∧ root40 n * root40 n ≤ n * 2 ^ 80 ∧ n * 2 ^ 80 < (root40 n + 1) * (root40 n + 1) := fl_spec _ (Int.mul_nonneg h (by decide))
/-- A unit, 2^40 roots of times, is the number 2^70 times, but for about a root. -/
theorem unit_root (p : Q4) (h : 0 < p.nm) : ∃ D : Q4, p.unit.smul (root40 p.nm) = (p.smul (2 ^ 70)).add D ∧ D.sz (root40 p.nm + 2 ^ 32) := by
  have hu := unit_one p h
  refine ⟨(p.unit.smul (root40 p.nm)).sub (p.smul (2 ^ 70)), by refine Q4.ext_ ?_ ?_ ?_ ?_ <;> simp only [Q4.add, Q4.sub] <;> omega, ?_⟩
  have hs : p.unit.sz (2 ^ 30 + 2) := ⟨by decide, by unfold Q4.one_ at hu; omega⟩
  obtain ⟨a1, a2, a3, a4⟩ := hs.part
  have k1 := share_root p.w p.nm _ _ h rfl rfl
  have k2 := share_root p.x p.nm _ _ h rfl rfl
  have k3 := share_root p.y p.nm _ _ h rfl rfl
  have k4 := share_root p.z p.nm _ _ h rfl rfl
  have r0 := (root40_spec p.nm (by omega)).1
  have c1 : ab p.unit.w ≤ 2 ^ 30 + 2 := ab_le_of (by omega) (by omega)
  have c2 : ab p.unit.x ≤ 2 ^ 30 + 2 := ab_le_of (by omega) (by omega)
  have c3 : ab p.unit.y ≤ 2 ^ 30 + 2 := ab_le_of (by omega) (by omega)
  have c4 : ab p.unit.z ≤ 2 ^ 30 + 2 := ab_le_of (by omega) (by omega)
  simp only [Q4.unit] at c1 c2 c3 c4
  have D2 : (((p.unit.smul (root40 p.nm)).sub (p.smul (2 ^ 70))).smul 2).sz (2 * (root40 p.nm + 2 ^ 32)) := by
    refine Q4.sz_of _ _ ?_
    simp only [Q4.smul, Q4.sub, Q4.unit]
    refine ⟨?_, ?_, ?_, ?_⟩ <;> omega
  exact D2.of_smul (by decide) (by omega)

/-! ### spun and spun back -/
theorem Q4.one_sz {p : Q4} (h : p.one_ 2147483650) : p.sz (2 ^ 30 + 2) := ⟨by decide, by unfold Q4.one_ at h; omega⟩
/-- 2^31 and the rate. -/
def Q4.wide (x y z : Int) : Q4 := ⟨2 ^ 31, x, y, z⟩
/-- An orientation, spun: each number of it and of half its product, told. -/
def Q4.spun (q : Q4) (x y z : Int) : Q4 := ⟨rnd (q.mul (Q4.vec x y z)).w (2 ^ 31) + q.w, rnd (q.mul (Q4.vec x y z)).x (2 ^ 31) + q.x, rnd (q.mul (Q4.vec x y z)).y (2 ^ 31) + q.y, rnd (q.mul (Q4.vec x y z)).z (2 ^ 31) + q.z⟩
theorem spun_err (q : Q4) (x y z : Int) : ∃ E : Q4, (q.spun x y z).smul (2 ^ 31) = (q.mul (Q4.wide x y z)).add E ∧ E.sz (2 ^ 31) := by
  refine ⟨((q.spun x y z).smul (2 ^ 31)).sub (q.mul (Q4.wide x y z)), by refine Q4.ext_ ?_ ?_ ?_ ?_ <;> simp only [Q4.add, Q4.sub] <;> omega, ?_⟩
  have h1 := rnd_near (q.mul (Q4.vec x y z)).w (2 ^ 31) (by decide)
  have h2 := rnd_near (q.mul (Q4.vec x y z)).x (2 ^ 31) (by decide)
  have h3 := rnd_near (q.mul (Q4.vec x y z)).y (2 ^ 31) (by decide)
  have h4 := rnd_near (q.mul (Q4.vec x y z)).z (2 ^ 31) (by decide)
  have e : q.mul (Q4.wide x y z) = (q.mul (Q4.vec x y z)).add (q.smul (2 ^ 31)) := by
    refine Q4.ext_ ?_ ?_ ?_ ?_ <;> simp only [Q4.mul, Q4.add, Q4.smul, Q4.vec, Q4.wide, pw, px, py, pz] <;> omega
  rw [e]
  refine (Q4.sz_of _ (2 ^ 30) ?_).mono (by decide)
  simp only [Q4.smul, Q4.sub, Q4.add, Q4.spun]
  refine ⟨ab_le_of ?_ ?_, ab_le_of ?_ ?_, ab_le_of ?_ ?_, ab_le_of ?_ ?_⟩ <;> omega
theorem wide_nm (x y z : Int) (hx : -2 ^ 23 ≤ x ∧ x ≤ 2 ^ 23) (hy : -2 ^ 23 ≤ y ∧ y ≤ 2 ^ 23) (hz : -2 ^ 23 ≤ z ∧ z ≤ 2 ^ 23) : 2 ^ 62 ≤ (Q4.wide x y z).nm ∧ (Q4.wide x y z).nm ≤ 2 ^ 62 + 3 * 2 ^ 46 := by
  have P : ∀ x : Int, -2 ^ 23 ≤ x ∧ x ≤ 2 ^ 23 → x * x ≤ 2 ^ 46 := fun x h => by
    have := (mul_bd (x := x) (y := x) (p := 2 ^ 23) (q := 2 ^ 23) (ab_le_of (by omega) (by omega)) (ab_le_of (by omega) (by omega))).2
    omega
  have := P x hx
  have := P y hy
  have := P z hz
  have := sq_nonneg x
  have := sq_nonneg y
  have := sq_nonneg z
  simp only [Q4.wide, Q4.nm, sq4]
  omega
theorem root40_lt {n K : Int} (hn : 0 ≤ n) (hK : 0 ≤ K) (h : n * 2 ^ 80 ≤ K * K) : root40 n ≤ K := by
  obtain ⟨h0, h1, h2⟩ := root40_spec n hn
  exact sq_le hK (by omega)
theorem root40_gt {n K : Int} (hn : 0 ≤ n) (hK : 0 ≤ K) (h : K * K ≤ n * 2 ^ 80) : K ≤ root40 n := by
  obtain ⟨h0, h1, h2⟩ := root40_spec n hn
  have := sq_lt (a := K) (b := root40 n + 1) hK (by omega) (by omega)
  omega
/-- From below: a sum is at least so long. -/
theorem Q4.nm_ge {p q : Q4} {K L : Int} (hp : K * K ≤ p.nm) (hK : 0 ≤ K) (hq : q.sz L) (hl : L ≤ K) : (K - L) * (K - L) ≤ (p.add q).nm := by
  refine Classical.byContradiction fun hn => ?_
  have h0 := (p.add q).nm_nonneg
  obtain ⟨r, hr⟩ : ∃ r, r = fl (p.add q).nm := ⟨_, rfl⟩
  have e : ((p.add q).sub q) = p := by refine Q4.ext_ ?_ ?_ ?_ ?_ <;> simp only [Q4.sub, Q4.add] <;> omega
  -- |p|^2 = |s|^2 + |q|^2 - 2 s.q < (K-L)^2 + L^2 + 2 (K-L) L
  have hc := Q4.cauchy (p.add q) q
  have hd : -((K - L) * L) ≤ (p.add q).dot q := by
    have h1 : (p.add q).nm * q.nm ≤ ((K - L) * (K - L)) * (L * L) := Int.mul_le_mul (by omega) hq.le (Q4.nm_nonneg _) (sq_nonneg _)
    have h2 : ab ((p.add q).dot q) ≤ (K - L) * L := by
      refine sq_le (Int.mul_nonneg (by omega) hq.nn) ?_
      rw [ab_sq]
      have : (K - L) * L * ((K - L) * L) = ((K - L) * (K - L)) * (L * L) := by grind
      omega
    have := neg_ab_le ((p.add q).dot q)
    omega
  have e2 : p.nm = (p.add q).nm + q.nm - 2 * (p.add q).dot q := by simp only [Q4.nm, Q4.add, Q4.dot, sq4]; grind
  have e3 : K * K = (K - L) * (K - L) + L * L + 2 * ((K - L) * L) := by grind
  have := hq.le
  omega
/-- Spun by a rate and by its negative: as before, but for 16. -/
theorem spin_back (q : Q4) (x y z : Int) (hq : q.one_ 2147483650) (hx : -2 ^ 23 ≤ x ∧ x ≤ 2 ^ 23) (hy : -2 ^ 23 ≤ y ∧ y ≤ 2 ^ 23) (hz : -2 ^ 23 ≤ z ∧ z ≤ 2 ^ 23) :
    ((((q.spun x y z).unit.spun (-x) (-y) (-z)).unit).sub q).sz 16 ∧ 0 < (q.spun x y z).nm ∧ 0 < ((q.spun x y z).unit.spun (-x) (-y) (-z)).nm := by
  obtain ⟨E1, hE1, sE1⟩ := spun_err q x y z
  obtain ⟨W, hW⟩ : ∃ W, W = Q4.wide x y z := ⟨_, rfl⟩
  obtain ⟨w1, w2⟩ := wide_nm x y z hx hy hz
  rw [← hW] at hE1 w1 w2
  have hWc : Q4.wide (-x) (-y) (-z) = W.conj := by rw [hW]; rfl
  have sW : W.sz (2 ^ 31 + 2 ^ 20) := ⟨by decide, by omega⟩
  obtain ⟨p1, hp1⟩ : ∃ p, p = q.spun x y z := ⟨_, rfl⟩
  rw [← hp1] at hE1 ⊢
  have sq := Q4.one_sz hq
  unfold Q4.one_ at hq
  -- p1's size
  have n1 : (2 ^ 60 : Int) * 2 ^ 60 ≤ (q.mul W).nm := by
    rw [Q4.nm_mul]
    have : (2 ^ 60 - 2147483650 : Int) * 2 ^ 62 ≤ q.nm * W.nm := Int.mul_le_mul (by omega) (by omega) (by decide) (Q4.nm_nonneg _)
    omega
  have l1 : (2 ^ 60 : Int) * 2 ^ 60 ≤ 2 ^ 62 * p1.nm := by
    have h := Q4.nm_ge (K := 2 ^ 61 - 2 ^ 35) (p := q.mul W) (by
      rw [Q4.nm_mul]
      have : (2 ^ 60 - 2147483650 : Int) * 2 ^ 62 ≤ q.nm * W.nm := Int.mul_le_mul (by omega) (by omega) (by decide) (Q4.nm_nonneg _)
      omega) (by decide) sE1 (by decide)
    rw [← hE1, Q4.nm_smul] at h
    omega
  have u1 : 2 ^ 62 * p1.nm ≤ (2 ^ 61 + 2 ^ 55) * (2 ^ 61 + 2 ^ 55) := by
    have h := ((sq.mul sW).add sE1).le
    rw [← hE1, Q4.nm_smul] at h
    omega
  have hp10 : 0 < p1.nm := by omega
  obtain ⟨D1, hD1, sD1⟩ := unit_root p1 hp10
  have hc1 := unit_one p1 hp10
  obtain ⟨c, hc⟩ : ∃ c, c = p1.unit := ⟨_, rfl⟩
  rw [← hc] at hD1 hc1 ⊢
  obtain ⟨r1, hr1⟩ : ∃ r, r = root40 p1.nm := ⟨_, rfl⟩
  have r1u : r1 ≤ 2 ^ 70 + 2 ^ 65 := by rw [hr1]; exact root40_lt (by omega) (by decide) (by omega)
  have r1l : 2 ^ 69 ≤ r1 := by rw [hr1]; exact root40_gt (by omega) (by decide) (by omega)
  rw [← hr1] at hD1 sD1
  obtain ⟨E2, hE2, sE2⟩ := spun_err c (-x) (-y) (-z)
  rw [hWc] at hE2
  obtain ⟨p2, hp2⟩ : ∃ p, p = c.spun (-x) (-y) (-z) := ⟨_, rfl⟩
  rw [← hp2] at hE2 ⊢
  have sc := Q4.one_sz hc1
  have hWcn : W.conj.nm = W.nm := Q4.nm_conj W
  unfold Q4.one_ at hc1
  have l2 : (2 ^ 61 - 2 ^ 36) * (2 ^ 61 - 2 ^ 36) ≤ 2 ^ 62 * p2.nm := by
    have h := Q4.nm_ge (K := 2 ^ 61 - 2 ^ 35) (p := c.mul W.conj) (by
      rw [Q4.nm_mul, hWcn]
      have : (2 ^ 60 - 2147483650 : Int) * 2 ^ 62 ≤ c.nm * W.nm := Int.mul_le_mul (by omega) (by omega) (by decide) (Q4.nm_nonneg _)
      omega) (by decide) sE2 (by decide)
    rw [← hE2, Q4.nm_smul] at h
    omega
  have u2 : 2 ^ 62 * p2.nm ≤ (2 ^ 61 + 2 ^ 55) * (2 ^ 61 + 2 ^ 55) := by
    have h := ((sc.mul sW.conj).add sE2).le
    rw [← hE2, Q4.nm_smul] at h
    omega
  have hp20 : 0 < p2.nm := by omega
  obtain ⟨D2, hD2, sD2⟩ := unit_root p2 hp20
  have hd1 := unit_one p2 hp20
  obtain ⟨d, hd⟩ : ∃ d, d = p2.unit := ⟨_, rfl⟩
  rw [← hd] at hD2 hd1 ⊢
  obtain ⟨r2, hr2⟩ : ∃ r, r = root40 p2.nm := ⟨_, rfl⟩
  have r2u : r2 ≤ 2 ^ 70 + 2 ^ 65 := by rw [hr2]; exact root40_lt (by omega) (by decide) (by omega)
  have r2l : 2 ^ 70 - 2 ^ 60 ≤ r2 := by rw [hr2]; exact root40_gt (by omega) (by decide) (by omega)
  rw [← hr2] at hD2 sD2
  have sd := Q4.one_sz hd1
  -- B d = A q + G
  obtain ⟨A, hA⟩ : ∃ A, A = 2 ^ 140 * W.nm := ⟨_, rfl⟩
  obtain ⟨B, hB⟩ : ∃ B, B = 2 ^ 62 * (r1 * r2) := ⟨_, rfl⟩
  obtain ⟨G, hG⟩ : ∃ G, G = (((E1.mul W.conj).smul (2 ^ 140)).add ((D1.mul W.conj).smul (2 ^ 101))).add ((E2.smul (2 ^ 101 * r1)).add (D2.smul (2 ^ 62 * r1))) := ⟨_, rfl⟩
  have hmain : d.smul B = (q.smul A).add G := by
    have t0 : (q.mul W).mul W.conj = q.smul W.nm := by rw [Q4.mul_assoc, Q4.mul_conj, Q4.mul_real]
    have t1 : (p1.mul W.conj).smul (2 ^ 31) = (q.smul W.nm).add (E1.mul W.conj) := by rw [← Q4.smul_mul, hE1, Q4.add_mul, t0]
    have t2 : (c.mul W.conj).smul r1 = ((p1.mul W.conj).smul (2 ^ 70)).add (D1.mul W.conj) := by rw [← Q4.smul_mul, hD1, Q4.add_mul, Q4.smul_mul]
    have a1 := congrArg Q4.w t1
    have a2 := congrArg Q4.x t1
    have a3 := congrArg Q4.y t1
    have a4 := congrArg Q4.z t1
    have b1 := congrArg Q4.w t2
    have b2 := congrArg Q4.x t2
    have b3 := congrArg Q4.y t2
    have b4 := congrArg Q4.z t2
    have c1 := congrArg Q4.w hE2
    have c2 := congrArg Q4.x hE2
    have c3 := congrArg Q4.y hE2
    have c4 := congrArg Q4.z hE2
    have d1 := congrArg Q4.w hD2
    have d2 := congrArg Q4.x hD2
    have d3 := congrArg Q4.y hD2
    have d4 := congrArg Q4.z hD2
    rw [hA, hB, hG]
    simp only [Q4.smul, Q4.add] at a1 a2 a3 a4 b1 b2 b3 b4 c1 c2 c3 c4 d1 d2 d3 d4
    clear hE1 hE2 hD1 hD2 t0 t1 t2 hW hWc hp1 hp2 hc hd hr1 hr2 hWcn
    refine Q4.ext_ ?_ ?_ ?_ ?_ <;> simp only [Q4.smul, Q4.add] <;> grind
  have sG : G.sz (17 * 2 ^ 200) := by
    have s1 : ((E1.mul W.conj).smul (2 ^ 140)).sz (2 ^ 140 * (2 ^ 31 * (2 ^ 31 + 2 ^ 20))) := (sE1.mul sW.conj).pos (by decide)
    have s2 : ((D1.mul W.conj).smul (2 ^ 101)).sz (2 ^ 101 * ((r1 + 2 ^ 32) * (2 ^ 31 + 2 ^ 20))) := (sD1.mul sW.conj).pos (by decide)
    have s3 : (E2.smul (2 ^ 101 * r1)).sz (2 ^ 101 * r1 * 2 ^ 31) := sE2.pos (Int.mul_nonneg (by decide) (by omega))
    have s4 : (D2.smul (2 ^ 62 * r1)).sz (2 ^ 62 * r1 * (r2 + 2 ^ 32)) := sD2.pos (Int.mul_nonneg (by decide) (by omega))
    rw [hG]
    refine ((s1.add s2).add (s3.add s4)).mono ?_
    have m1 : r1 * (r2 + 2 ^ 32) ≤ (2 ^ 70 + 2 ^ 65) * (2 ^ 70 + 2 ^ 66) := Int.mul_le_mul r1u (by omega) (by omega) (by decide)
    have e1 : 2 ^ 62 * r1 * (r2 + 2 ^ 32) = 2 ^ 62 * (r1 * (r2 + 2 ^ 32)) := by grind
    rw [e1]
    omega
  have hA0 : 2 ^ 202 ≤ A := by rw [hA]; omega
  have hAu : A ≤ 2 ^ 202 + 2 ^ 190 := by rw [hA]; omega
  have hB0 : 2 ^ 202 - 2 ^ 198 ≤ B := by
    rw [hB]
    have r1l2 : 2 ^ 70 - 2 ^ 60 ≤ r1 := by
      have l1' : (2 ^ 61 - 2 ^ 36) * (2 ^ 61 - 2 ^ 36) ≤ 2 ^ 62 * p1.nm := by
        have h := Q4.nm_ge (K := 2 ^ 61 - 2 ^ 35) (p := q.mul W) (by
          rw [Q4.nm_mul]
          have : (2 ^ 60 - 2147483650 : Int) * 2 ^ 62 ≤ q.nm * W.nm := Int.mul_le_mul (by omega) (by omega) (by decide) (Q4.nm_nonneg _)
          omega) (by decide) sE1 (by decide)
        rw [← hE1, Q4.nm_smul] at h
        omega
      rw [hr1]; exact root40_gt (by omega) (by decide) (by omega)
    have : (2 ^ 70 - 2 ^ 60) * (2 ^ 70 - 2 ^ 60) ≤ r1 * r2 := Int.mul_le_mul r1l2 r2l (by decide) (by omega)
    omega
  have hBu : B ≤ 2 ^ 202 + 2 ^ 199 := by
    rw [hB]
    have : r1 * r2 ≤ (2 ^ 70 + 2 ^ 65) * (2 ^ 70 + 2 ^ 65) := Int.mul_le_mul r1u r2u (by omega) (by decide)
    omega
  -- A and B are near
  have hd0 : (2 ^ 30 - 2) * (2 ^ 30 - 2) ≤ d.nm := by unfold Q4.one_ at hd1; omega
  have hq0 : (2 ^ 30 - 2) * (2 ^ 30 - 2) ≤ q.nm := by omega
  have hAB : ab (A - B) * (2 ^ 30 - 2) ≤ 34 * 2 ^ 200 := by
    -- |B d| is at most A|q| + |G|, and the other way round
    have up := ((sq.pos (k := A) (by omega)).add sG).le
    rw [← hmain, Q4.nm_smul] at up
    have f1 : B * (2 ^ 30 - 2) ≤ A * (2 ^ 30 + 2) + 17 * 2 ^ 200 := by
      refine sq_le (by omega) ?_
      have e : B * (2 ^ 30 - 2) * (B * (2 ^ 30 - 2)) = B * B * ((2 ^ 30 - 2) * (2 ^ 30 - 2)) := by grind
      have := Int.mul_le_mul_of_nonneg_left hd0 (sq_nonneg B)
      omega
    have dn := ((sd.pos (k := B) (by omega)).sub sG).le
    have e0 : (d.smul B).sub G = q.smul A := by
      rw [hmain]; refine Q4.ext_ ?_ ?_ ?_ ?_ <;> simp only [Q4.sub, Q4.add] <;> omega
    rw [e0, Q4.nm_smul] at dn
    have f2 : A * (2 ^ 30 - 2) ≤ B * (2 ^ 30 + 2) + 17 * 2 ^ 200 := by
      refine sq_le (by omega) ?_
      have e : A * (2 ^ 30 - 2) * (A * (2 ^ 30 - 2)) = A * A * ((2 ^ 30 - 2) * (2 ^ 30 - 2)) := by grind
      have := Int.mul_le_mul_of_nonneg_left hq0 (sq_nonneg A)
      omega
    unfold ab; split <;> omega
  have hdq : ((d.sub q).smul B).sz (B * 16) := by
    have e : (d.sub q).smul B = (q.smul (A - B)).add G := by
      have a1 := congrArg Q4.w hmain
      have a2 := congrArg Q4.x hmain
      have a3 := congrArg Q4.y hmain
      have a4 := congrArg Q4.z hmain
      simp only [Q4.smul, Q4.add] at a1 a2 a3 a4
      clear hmain hE1 hE2 hD1 hD2
      refine Q4.ext_ ?_ ?_ ?_ ?_ <;> simp only [Q4.smul, Q4.add, Q4.sub] <;> grind
    rw [e]
    refine ((sq.smul (A - B)).add sG).mono ?_
    have : ab (A - B) * (2 ^ 30 + 2) ≤ 35 * 2 ^ 200 := by
      have h0 := ab_nonneg (A - B)
      omega
    omega
  exact ⟨hdq.of_smul (by omega) (by decide), hp10, hp20⟩

end Go.Proofs.Ytcabnnfhcolcfaa
