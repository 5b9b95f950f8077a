/- The walk of mul. -/
import Derived.Test.YtcabnnfhcolcfaaW9
namespace Go.Proofs.Ytcabnnfhcolcfaa
set_option linter.unusedSimpArgs false
set_option linter.unusedVariables false
open Go.RowKit

theorem Sm.limbs {m : Int} (k : Nat) (hk : k ≤ 1099511627776) (h0 : 0 ≤ m) (h : m < 18446744073709551616 ^ k) : Sm m := by
  refine ⟨64 * k, by omega, ?_, by rw [← pow64_eq]; exact h⟩
  have := pow2_pos (64 * k)
  omega
theorem left_int (va : Value) (a k : Int) (n : Nat) (w : World) (hk : k = n) (ha : NatAt w va a) (hla : Sm a) (hn : n ≤ 70368744177664) :
    Calls Try.prog 122 #[va, .int .i64 k] w (RetB w fun v w' => NatAt w' v (2 ^ n * a)) := by
  subst hk; exact left_any va a n w ha hla hn
theorem NatAt.lt_pow {w : World} {v : Value} {m : Int} (h : NatAt w v m) : ∃ A n c, v = .slice A n c ∧ m < 18446744073709551616 ^ n ∧ (0 < n → 18446744073709551616 ^ (n - 1) ≤ m) := by
  obtain ⟨A, n, c, xs, rfl, hc, hr, hx, hv⟩ := h
  refine ⟨A, n, c, rfl, by rw [← hv, ← hr.1]; exact lv_lt hx.1, fun h0 => ?_⟩
  rw [← hv, ← hr.1]
  exact hx.ge (by rintro rfl; have := hr.1; simp at this; omega)

/-- The numbers of a product by halves. -/
structure Kar (Q : Int) (al ah bl bh : Int) : Prop where
  al0 : 0 ≤ al
  ah0 : 0 ≤ ah
  bl0 : 0 ≤ bl
  bh0 : 0 ≤ bh
  al1 : al < Q
  ah1 : ah < Q
  bl1 : bl < Q
  bh1 : bh < Q
  sa : al + ah < Q
  sb : bl + bh < Q
theorem Kar.mk' {a b : Int} {M h : Nat} (ha0 : 0 ≤ a) (hb0 : 0 ≤ b) (ha : a < 18446744073709551616 ^ M) (hb : b < 18446744073709551616 ^ M) (hh : M ≤ 2 * h) :
    Kar (18446744073709551616 ^ (h + 1)) (a % 18446744073709551616 ^ h) (a / 18446744073709551616 ^ h) (b % 18446744073709551616 ^ h) (b / 18446744073709551616 ^ h) := by
  have hp := pow_pos64 h
  have e1 : (18446744073709551616 : Int) ^ (h + 1) = 18446744073709551616 ^ h * 18446744073709551616 := Int.pow_succ _ _
  have e2 : (18446744073709551616 : Int) ^ M ≤ 18446744073709551616 ^ h * 18446744073709551616 ^ h := by
    rw [← Int.pow_add]; exact pow_mono64 (by omega)
  have a1 := Int.emod_nonneg a (show (18446744073709551616 : Int) ^ h ≠ 0 by omega)
  have a2 := Int.emod_lt_of_pos a hp
  have b1 := Int.emod_nonneg b (show (18446744073709551616 : Int) ^ h ≠ 0 by omega)
  have b2 := Int.emod_lt_of_pos b hp
  have a3 : 0 ≤ a / 18446744073709551616 ^ h := Int.ediv_nonneg ha0 (by omega)
  have b3 : 0 ≤ b / 18446744073709551616 ^ h := Int.ediv_nonneg hb0 (by omega)
  have a4 : a / 18446744073709551616 ^ h < 18446744073709551616 ^ h := Int.ediv_lt_of_lt_mul hp (by omega)
  have b4 : b / 18446744073709551616 ^ h < 18446744073709551616 ^ h := Int.ediv_lt_of_lt_mul hp (by omega)
  generalize (18446744073709551616 : Int) ^ h = H at *
  generalize (18446744073709551616 : Int) ^ (h + 1) = Q at *
  constructor <;> omega
theorem Kar.cross {Q al ah bl bh : Int} (k : Kar Q al ah bl bh) : al * bl ≤ (al + ah) * (bl + bh) ∧ ah * bh ≤ (al + ah) * (bl + bh) - al * bl ∧ 0 ≤ al * bl ∧ 0 ≤ ah * bh ∧ (al + ah) * (bl + bh) < Q * Q := by
  have h1 := Int.mul_nonneg k.al0 k.bl0
  have h2 := Int.mul_nonneg k.al0 k.bh0
  have h3 := Int.mul_nonneg k.ah0 k.bl0
  have h4 := Int.mul_nonneg k.ah0 k.bh0
  have e : (al + ah) * (bl + bh) = al * bl + al * bh + ah * bl + ah * bh := by grind
  have h5 : (al + ah) * (bl + bh) < Q * Q := by
    have := k.sa; have := k.sb; have := k.al0; have := k.ah0; have := k.bl0; have := k.bh0
    have i1 : (al + ah) * (bl + bh) ≤ (al + ah) * Q := Int.mul_le_mul_of_nonneg_left (by omega) (by omega)
    have i2 : (al + ah) * Q < Q * Q := Int.mul_lt_mul_of_pos_right (by omega) (by omega)
    omega
  refine ⟨by omega, by omega, h1, h4, h5⟩
theorem Kar.sum {a b : Int} (h : Nat) : let H := (18446744073709551616 : Int) ^ h; let al := a % H; let ah := a / H; let bl := b % H; let bh := b / H;
    al * bl + 2 ^ (64 * h) * ((al + ah) * (bl + bh) - al * bl - ah * bh) + 2 ^ (128 * h) * (ah * bh) = a * b := by
  intro H al ah bl bh
  have e1 : a = al + H * ah := (Int.emod_add_mul_ediv a H).symm
  have e2 : b = bl + H * bh := (Int.emod_add_mul_ediv b H).symm
  have e3 : (2 : Int) ^ (64 * h) = H := (pow64_eq h).symm
  have e4 : (2 : Int) ^ (128 * h) = H * H := by rw [show 128 * h = 64 * h + 64 * h by omega, Int.pow_add, e3]
  rw [e3, e4]
  conv => rhs; rw [e1, e2]
  grind

set_option maxHeartbeats 2000000 in
set_option maxRecDepth 100000 in
theorem mul_step (L : Nat) (hL : L ≤ 549755813888) (IH : ∀ K, K < L → ∀ (va vb : Value) (a b : Int) (w : World), NatAt w va a → NatAt w vb b → a < 18446744073709551616 ^ K → b < 18446744073709551616 ^ K → Calls Try.prog 130 #[va, vb] w (RetB w fun v w' => NatAt w' v (a * b)))
    (A B : Option Addr) (n m c d : Nat) (a b : Int) (w : World) (ha : NatAt w (.slice A n c) a) (hb : NatAt w (.slice B m d) b) (hla : a < 18446744073709551616 ^ L) (hlb : b < 18446744073709551616 ^ L) (hn : n ≤ L) (hm : m ≤ L) (hsa : Sm a) (hsb : Sm b) (hla2 : a < 18446744073709551616 ^ max n m) (hlb2 : b < 18446744073709551616 ^ max n m) :
    Calls Try.prog 130 #[.slice A n c, .slice B m d] w (RetB w fun v w' => NatAt w' v (a * b)) := by
  have HA := Lib.hid ha
  have HB := Lib.hid hb
  by_cases h24 : min n m < 24
  · have hmin : min (n : Int) (m : Int) < 24 := by omega
    have HT := Lib.hid (schoolbook_any _ _ _ _ w ha hb hsa hsb)
    clear IH ha hb hla hlb hsa hsb hla2 hlb2
    go_enter Try.func130, Try.ntmps130
    go_wp2_with ((go_at_call 136); (refine (HT.out).mono ?_); rintro e w' ⟨⟨v, rfl, hv⟩, hb⟩)
    go_ret
    exact RetB.mk hv hb
  · obtain ⟨h, hh⟩ : ∃ h, h = (max n m + 1) / 2 := ⟨_, rfl⟩
    have hmin : ¬ min (n : Int) (m : Int) < 24 := by omega
    have hmax : (max (n : Int) (m : Int) + 1) / 2 = h := by omega
    have k := Kar.mk' (h := h) ha.nonneg hb.nonneg hla2 hlb2 (by omega)
    have ksum := Kar.sum (a := a) (b := b) h
    have hlt : h + 1 < L := by omega
    have IHK := Lib.hid (IH (h + 1) hlt)
    have HLO := Lib.hid (fun (va : Value) (a : Int) (w' : World) (x : NatAt w' va a) (y : w'.cell? ⟨w.heap.size, 0, none⟩ = some (.int .i64 h)) (z : Sm a) => low_any va a h w.heap.size w' x y (by omega) z)
    have HHI := Lib.hid (fun (va : Value) (a : Int) (w' : World) (x : NatAt w' va a) (y : w'.cell? ⟨w.heap.size, 0, none⟩ = some (.int .i64 h)) (z : Sm a) => high_any va a h w.heap.size w' x y (by omega) z)
    have hpos := pow_pos64 h
    have hhb : h ≤ 549755813888 := by omega
    obtain ⟨H, hH⟩ : ∃ H, (18446744073709551616 : Int) ^ h = H := ⟨_, rfl⟩
    rw [hH] at k
    simp only [hH] at ksum HLO HHI
    obtain ⟨al, eal⟩ : ∃ al, a % H = al := ⟨_, rfl⟩
    obtain ⟨ah, eah⟩ : ∃ ah, a / H = ah := ⟨_, rfl⟩
    obtain ⟨bl, ebl⟩ : ∃ bl, b % H = bl := ⟨_, rfl⟩
    obtain ⟨bh, ebh⟩ : ∃ bh, b / H = bh := ⟨_, rfl⟩
    rw [eal, eah, ebl, ebh] at k
    simp only [eal, eah, ebl, ebh] at ksum
    have HLA := Lib.hid (fun (w' : World) (x : NatAt w' (.slice A n c) a) (y : w'.cell? ⟨w.heap.size, 0, none⟩ = some (.int .i64 h)) => HLO.out _ _ w' x y hsa)
    have HLB := Lib.hid (fun (w' : World) (x : NatAt w' (.slice B m d) b) (y : w'.cell? ⟨w.heap.size, 0, none⟩ = some (.int .i64 h)) => HLO.out _ _ w' x y hsb)
    have HHA := Lib.hid (fun (w' : World) (x : NatAt w' (.slice A n c) a) (y : w'.cell? ⟨w.heap.size, 0, none⟩ = some (.int .i64 h)) => HHI.out _ _ w' x y hsa)
    have HHB := Lib.hid (fun (w' : World) (x : NatAt w' (.slice B m d) b) (y : w'.cell? ⟨w.heap.size, 0, none⟩ = some (.int .i64 h)) => HHI.out _ _ w' x y hsb)
    simp only [eal, eah, ebl, ebh] at HLA HLB HHA HHB
    obtain ⟨le1, le2, n1, n4, lt1⟩ := k.cross
    have hQ : (18446744073709551616 : Int) ^ (h + 1) * 18446744073709551616 ^ (h + 1) = 18446744073709551616 ^ (2 * h + 2) := by rw [← Int.pow_add, show h + 1 + (h + 1) = 2 * h + 2 by omega]
    rw [hQ] at lt1
    have sal := Sm.limbs (h + 1) (by omega) k.al0 k.al1
    have sah := Sm.limbs (h + 1) (by omega) k.ah0 k.ah1
    have sbl := Sm.limbs (h + 1) (by omega) k.bl0 k.bl1
    have sbh := Sm.limbs (h + 1) (by omega) k.bh0 k.bh1
    have s1 := Sm.limbs (2 * h + 2) (by omega) (Int.le_trans n1 le1) lt1
    have s2 := Sm.limbs (m := (al + ah) * (bl + bh) - al * bl) (2 * h + 2) (by omega) (by omega) (by omega)
    have s3 := Sm.limbs (m := (al + ah) * (bl + bh) - al * bl - ah * bh) (2 * h + 2) (by omega) (by omega) (by omega)
    have s4 := Sm.limbs (m := ah * bh) (2 * h + 2) (by omega) (by omega) (by omega)
    have s5 := Sm.limbs (m := al * bl) (2 * h + 2) (by omega) (by omega) (by omega)
    have q1 : (0 : Int) ≤ 2 ^ (64 * h) * ((al + ah) * (bl + bh) - al * bl - ah * bh) := Int.mul_nonneg (Int.le_of_lt (pow2_pos _)) (by omega)
    have q2 : (0 : Int) ≤ 2 ^ (128 * h) * (ah * bh) := Int.mul_nonneg (Int.le_of_lt (pow2_pos _)) (by omega)
    have hab : a * b < 18446744073709551616 ^ (2 * L) := by
      rw [Nat.two_mul, Int.pow_add]
      have hLp := pow_pos64 L
      have i1 : a * b ≤ a * 18446744073709551616 ^ L := Int.mul_le_mul_of_nonneg_left (by omega) ha.nonneg
      have i2 : a * 18446744073709551616 ^ L < 18446744073709551616 ^ L * 18446744073709551616 ^ L := Int.mul_lt_mul_of_pos_right hla hLp
      omega
    have s6 := Sm.limbs (m := 2 ^ (64 * h) * ((al + ah) * (bl + bh) - al * bl - ah * bh)) (2 * L) (by omega) q1 (by omega)
    have s7 := Sm.limbs (m := al * bl + 2 ^ (64 * h) * ((al + ah) * (bl + bh) - al * bl - ah * bh)) (2 * L) (by omega) (by omega) (by omega)
    have s8 := Sm.limbs (m := 2 ^ (128 * h) * (ah * bh)) (2 * L) (by omega) q2 (by omega)
    clear le1 le2 lt1 hab q1 q2 n1 n4 hQ
    have le1 := k.cross.1
    have le2 := k.cross.2.1
    clear IH HLO HHI eal eah ebl ebh ha hb hsa hsb hla hlb hla2 hlb2 hh
    go_enter Try.func130, Try.ntmps130
    go_wp2_with (first
      | (go_at_call 137; (with_reducible refine (HLA.out _ ?_ ?_).mono ?_); (· ((repeat (with_reducible (first | assumption | (exact HA.out) | (exact HB.out) | (refine NatAt.alloc ?_ _) | (refine NatAt.drew ?_) | (refine NatAt.below ?_ (by assumption))))); done)); (· (go_simp; done)); rintro e w1 ⟨⟨v, rfl, hv⟩, hb⟩; (obtain ⟨hc, hf⟩ := bcell hb); (have hs := hb.size); (try simp at hs); (have hz : w.heap.size < w1.heap.size := by omega))
      | (go_at_call 137; (with_reducible refine (HLB.out _ ?_ ?_).mono ?_); (· ((repeat (with_reducible (first | assumption | (exact HA.out) | (exact HB.out) | (refine NatAt.alloc ?_ _) | (refine NatAt.drew ?_) | (refine NatAt.below ?_ (by assumption))))); done)); (· (go_simp; done)); rintro e w1 ⟨⟨v, rfl, hv⟩, hb⟩; (obtain ⟨hc, hf⟩ := bcell hb); (have hs := hb.size); (try simp at hs); (have hz : w.heap.size < w1.heap.size := by omega))
      | (go_at_call 138; (with_reducible refine (HHA.out _ ?_ ?_).mono ?_); (· ((repeat (with_reducible (first | assumption | (exact HA.out) | (exact HB.out) | (refine NatAt.alloc ?_ _) | (refine NatAt.drew ?_) | (refine NatAt.below ?_ (by assumption))))); done)); (· (go_simp; done)); rintro e w1 ⟨⟨v, rfl, hv⟩, hb⟩; (obtain ⟨hc, hf⟩ := bcell hb); (have hs := hb.size); (try simp at hs); (have hz : w.heap.size < w1.heap.size := by omega))
      | (go_at_call 138; (with_reducible refine (HHB.out _ ?_ ?_).mono ?_); (· ((repeat (with_reducible (first | assumption | (exact HA.out) | (exact HB.out) | (refine NatAt.alloc ?_ _) | (refine NatAt.drew ?_) | (refine NatAt.below ?_ (by assumption))))); done)); (· (go_simp; done)); rintro e w1 ⟨⟨v, rfl, hv⟩, hb⟩; (obtain ⟨hc, hf⟩ := bcell hb); (have hs := hb.size); (try simp at hs); (have hz : w.heap.size < w1.heap.size := by omega))
      | (go_at_call 130; (with_reducible refine (IHK.out _ _ al bl _ ?_ ?_ k.al1 k.bl1).mono ?_); (· ((repeat (with_reducible (first | assumption | (exact HA.out) | (exact HB.out) | (refine NatAt.alloc ?_ _) | (refine NatAt.drew ?_) | (refine NatAt.below ?_ (by assumption))))); done)); (· ((repeat (with_reducible (first | assumption | (exact HA.out) | (exact HB.out) | (refine NatAt.alloc ?_ _) | (refine NatAt.drew ?_) | (refine NatAt.below ?_ (by assumption))))); done)); rintro e w1 ⟨⟨v, rfl, hv⟩, hb⟩; (obtain ⟨hc, hf⟩ := bcell hb); (have hs := hb.size); (try simp at hs); (have hz : w.heap.size < w1.heap.size := by omega))
      | (go_at_call 130; (with_reducible refine (IHK.out _ _ ah bh _ ?_ ?_ k.ah1 k.bh1).mono ?_); (· ((repeat (with_reducible (first | assumption | (exact HA.out) | (exact HB.out) | (refine NatAt.alloc ?_ _) | (refine NatAt.drew ?_) | (refine NatAt.below ?_ (by assumption))))); done)); (· ((repeat (with_reducible (first | assumption | (exact HA.out) | (exact HB.out) | (refine NatAt.alloc ?_ _) | (refine NatAt.drew ?_) | (refine NatAt.below ?_ (by assumption))))); done)); rintro e w1 ⟨⟨v, rfl, hv⟩, hb⟩; (obtain ⟨hc, hf⟩ := bcell hb); (have hs := hb.size); (try simp at hs); (have hz : w.heap.size < w1.heap.size := by omega))
      | (go_at_call 130; (with_reducible refine (IHK.out _ _ (al + ah) (bl + bh) _ ?_ ?_ k.sa k.sb).mono ?_); (· ((repeat (with_reducible (first | assumption | (exact HA.out) | (exact HB.out) | (refine NatAt.alloc ?_ _) | (refine NatAt.drew ?_) | (refine NatAt.below ?_ (by assumption))))); done)); (· ((repeat (with_reducible (first | assumption | (exact HA.out) | (exact HB.out) | (refine NatAt.alloc ?_ _) | (refine NatAt.drew ?_) | (refine NatAt.below ?_ (by assumption))))); done)); rintro e w1 ⟨⟨v, rfl, hv⟩, hb⟩; (obtain ⟨hc, hf⟩ := bcell hb); (have hs := hb.size); (try simp at hs); (have hz : w.heap.size < w1.heap.size := by omega))
      | (go_at_call 123; (with_reducible refine (add_any _ _ al ah _ ?_ ?_ sal sah).mono ?_); (· ((repeat (with_reducible (first | assumption | (exact HA.out) | (exact HB.out) | (refine NatAt.alloc ?_ _) | (refine NatAt.drew ?_) | (refine NatAt.below ?_ (by assumption))))); done)); (· ((repeat (with_reducible (first | assumption | (exact HA.out) | (exact HB.out) | (refine NatAt.alloc ?_ _) | (refine NatAt.drew ?_) | (refine NatAt.below ?_ (by assumption))))); done)); rintro e w1 ⟨⟨v, rfl, hv⟩, hb⟩; (obtain ⟨hc, hf⟩ := bcell hb); (have hs := hb.size); (try simp at hs); (have hz : w.heap.size < w1.heap.size := by omega))
      | (go_at_call 123; (with_reducible refine (add_any _ _ bl bh _ ?_ ?_ sbl sbh).mono ?_); (· ((repeat (with_reducible (first | assumption | (exact HA.out) | (exact HB.out) | (refine NatAt.alloc ?_ _) | (refine NatAt.drew ?_) | (refine NatAt.below ?_ (by assumption))))); done)); (· ((repeat (with_reducible (first | assumption | (exact HA.out) | (exact HB.out) | (refine NatAt.alloc ?_ _) | (refine NatAt.drew ?_) | (refine NatAt.below ?_ (by assumption))))); done)); rintro e w1 ⟨⟨v, rfl, hv⟩, hb⟩; (obtain ⟨hc, hf⟩ := bcell hb); (have hs := hb.size); (try simp at hs); (have hz : w.heap.size < w1.heap.size := by omega))
      | (go_at_call 129; (with_reducible refine (sub_any _ _ ((al + ah) * (bl + bh)) (al * bl) _ ?_ ?_ s1 le1).mono ?_); (· ((repeat (with_reducible (first | assumption | (exact HA.out) | (exact HB.out) | (refine NatAt.alloc ?_ _) | (refine NatAt.drew ?_) | (refine NatAt.below ?_ (by assumption))))); done)); (· ((repeat (with_reducible (first | assumption | (exact HA.out) | (exact HB.out) | (refine NatAt.alloc ?_ _) | (refine NatAt.drew ?_) | (refine NatAt.below ?_ (by assumption))))); done)); rintro e w1 ⟨⟨v, rfl, hv⟩, hb⟩; (obtain ⟨hc, hf⟩ := bcell hb); (have hs := hb.size); (try simp at hs); (have hz : w.heap.size < w1.heap.size := by omega))
      | (go_at_call 129; (with_reducible refine (sub_any _ _ ((al + ah) * (bl + bh) - al * bl) (ah * bh) _ ?_ ?_ s2 le2).mono ?_); (· ((repeat (with_reducible (first | assumption | (exact HA.out) | (exact HB.out) | (refine NatAt.alloc ?_ _) | (refine NatAt.drew ?_) | (refine NatAt.below ?_ (by assumption))))); done)); (· ((repeat (with_reducible (first | assumption | (exact HA.out) | (exact HB.out) | (refine NatAt.alloc ?_ _) | (refine NatAt.drew ?_) | (refine NatAt.below ?_ (by assumption))))); done)); rintro e w1 ⟨⟨v, rfl, hv⟩, hb⟩; (obtain ⟨hc, hf⟩ := bcell hb); (have hs := hb.size); (try simp at hs); (have hz : w.heap.size < w1.heap.size := by omega)))
    have hcell : w1.cell? ⟨w.heap.size, 0, none⟩ = some (.int .i64 h) := by go_simp
    go_region_held3 (fun w' => w'.cell? ⟨w.heap.size, 0, none⟩ = some (.int .i64 h)) ((first | go_keep | assumption)) (first
      | (go_at_call 122; (with_reducible refine (left_int _ ((al + ah) * (bl + bh) - al * bl - ah * bh) _ (64 * h) _ ?_ ?_ s3 (by omega)).mono ?_); (· (simp only [IntKind.wrap_i64]; omega)); (· ((repeat (with_reducible (first | assumption | (exact HA.out) | (exact HB.out) | (refine NatAt.alloc ?_ _) | (refine NatAt.drew ?_) | (refine NatAt.below ?_ (by assumption))))); done)); rintro e w1 ⟨⟨v, rfl, hv⟩, hb⟩; (obtain ⟨hc, hf⟩ := bcell hb); (have hs := hb.size); (try simp at hs); (have hz : w.heap.size < w1.heap.size := by omega); (have hS : w1.cell? ⟨w.heap.size, 0, none⟩ = some (.int .i64 h) := (hc _ _ (by first | assumption | (simp; omega))).trans (by assumption)))
      | (go_at_call 122; (with_reducible refine (left_int _ (ah * bh) _ (128 * h) _ ?_ ?_ s4 (by omega)).mono ?_); (· (simp only [IntKind.wrap_i64]; omega)); (· ((repeat (with_reducible (first | assumption | (exact HA.out) | (exact HB.out) | (refine NatAt.alloc ?_ _) | (refine NatAt.drew ?_) | (refine NatAt.below ?_ (by assumption))))); done)); rintro e w1 ⟨⟨v, rfl, hv⟩, hb⟩; (obtain ⟨hc, hf⟩ := bcell hb); (have hs := hb.size); (try simp at hs); (have hz : w.heap.size < w1.heap.size := by omega); (have hS : w1.cell? ⟨w.heap.size, 0, none⟩ = some (.int .i64 h) := (hc _ _ (by first | assumption | (simp; omega))).trans (by assumption)))
      | (go_at_call 123; (with_reducible refine (add_any _ _ (al * bl) (2 ^ (64 * h) * ((al + ah) * (bl + bh) - al * bl - ah * bh)) _ ?_ ?_ s5 s6).mono ?_); (· ((repeat (with_reducible (first | assumption | (exact HA.out) | (exact HB.out) | (refine NatAt.alloc ?_ _) | (refine NatAt.drew ?_) | (refine NatAt.below ?_ (by assumption))))); done)); (· ((repeat (with_reducible (first | assumption | (exact HA.out) | (exact HB.out) | (refine NatAt.alloc ?_ _) | (refine NatAt.drew ?_) | (refine NatAt.below ?_ (by assumption))))); done)); rintro e w1 ⟨⟨v, rfl, hv⟩, hb⟩; (obtain ⟨hc, hf⟩ := bcell hb); (have hs := hb.size); (try simp at hs); (have hz : w.heap.size < w1.heap.size := by omega); (have hS : w1.cell? ⟨w.heap.size, 0, none⟩ = some (.int .i64 h) := (hc _ _ (by first | assumption | (simp; omega))).trans (by assumption)))
      | (go_at_call 123; (with_reducible refine (add_any _ _ (al * bl + 2 ^ (64 * h) * ((al + ah) * (bl + bh) - al * bl - ah * bh)) (2 ^ (128 * h) * (ah * bh)) _ ?_ ?_ s7 s8).mono ?_); (· ((repeat (with_reducible (first | assumption | (exact HA.out) | (exact HB.out) | (refine NatAt.alloc ?_ _) | (refine NatAt.drew ?_) | (refine NatAt.below ?_ (by assumption))))); done)); (· ((repeat (with_reducible (first | assumption | (exact HA.out) | (exact HB.out) | (refine NatAt.alloc ?_ _) | (refine NatAt.drew ?_) | (refine NatAt.below ?_ (by assumption))))); done)); rintro e w1 ⟨⟨v, rfl, hv⟩, hb⟩; (obtain ⟨hc, hf⟩ := bcell hb); (have hs := hb.size); (try simp at hs); (have hz : w.heap.size < w1.heap.size := by omega); (have hS : w1.cell? ⟨w.heap.size, 0, none⟩ = some (.int .i64 h) := (hc _ _ (by first | assumption | (simp; omega))).trans (by assumption))))
    go_wp2
    go_ret
    rw [← ksum]
    exact RetB.mk hv (by repeat (first | (with_reducible assumption) | exact Below.refl _ _ | (with_reducible refine Below.setCell ?_ (by first | (simp; done) | (simp; omega) | omega) _) | (with_reducible refine Below.alloc ?_ (by first | (simp; done) | (simp; omega) | omega) _) | (with_reducible refine below_drewN' ?_ _) | (with_reducible refine Below.drew ?_) | (refine below_after (by with_reducible assumption) ?_ (by first | (simp; done) | (simp; omega) | omega))))

theorem mul_ind (L : Nat) : L ≤ 549755813888 → ∀ (va vb : Value) (a b : Int) (w : World), NatAt w va a → NatAt w vb b → a < 18446744073709551616 ^ L → b < 18446744073709551616 ^ L → Calls Try.prog 130 #[va, vb] w (RetB w fun v w' => NatAt w' v (a * b)) := by
  induction L using Nat.strongRecOn with
  | ind L ih =>
    intro hL va vb a b w ha hb hla hlb
    obtain ⟨A, n, c, rfl, a1, a2⟩ := ha.lt_pow
    obtain ⟨B, m, d, rfl, b1, b2⟩ := hb.lt_pow
    have hn : n ≤ L := by
      refine Classical.byContradiction fun h => ?_
      have := a2 (by omega)
      have := pow_mono64 (show L ≤ n - 1 by omega)
      omega
    have hm : m ≤ L := by
      refine Classical.byContradiction fun h => ?_
      have := b2 (by omega)
      have := pow_mono64 (show L ≤ m - 1 by omega)
      omega
    refine mul_step L hL (fun K hK => ih K hK (by omega)) A B n m c d a b w ha hb hla hlb hn hm (Sm.limbs L (by omega) ha.nonneg hla) (Sm.limbs L (by omega) hb.nonneg hlb) ?_ ?_
    · have := pow_mono64 (show n ≤ max n m by omega); omega
    · have := pow_mono64 (show m ≤ max n m by omega); omega
/-- Small enough to be multiplied: below 2^(2^45). -/
def Sl (m : Int) : Prop := ∃ p : Nat, p ≤ 35184372088832 ∧ -(2 : Int) ^ p < m ∧ m < (2 : Int) ^ p
theorem Sl.sm {m : Int} (h : Sl m) : Sm m := by
  obtain ⟨p, hp, h⟩ := h
  exact ⟨p, by omega, h⟩
theorem Sl.natAbs {m : Int} (h : Sl m) : Sl m.natAbs := by
  obtain ⟨p, hp, h1, h2⟩ := h
  exact ⟨p, hp, by omega, by omega⟩
theorem Sm.natAbs {m : Int} (h : Sm m) : Sm m.natAbs := by
  obtain ⟨p, hp, h1, h2⟩ := h
  exact ⟨p, hp, by omega, by omega⟩
theorem mul_any (va vb : Value) (a b : Int) (w : World) (ha : NatAt w va a) (hb : NatAt w vb b) (hla : Sl a) (hlb : Sl b) :
    Calls Try.prog 130 #[va, vb] w (RetB w fun v w' => NatAt w' v (a * b)) := by
  obtain ⟨p, hp, _, ha2⟩ := hla
  obtain ⟨q, hq, _, hb2⟩ := hlb
  obtain ⟨K, hK⟩ : ∃ K, K = 549755813888 := ⟨_, rfl⟩
  refine mul_ind K (by omega) va vb a b w ha hb ?_ ?_
  · rw [pow64_eq]; have := pow2_mono (show p ≤ 64 * K by omega); exact Int.lt_of_lt_of_le ha2 this
  · rw [pow64_eq]; have := pow2_mono (show q ≤ 64 * K by omega); exact Int.lt_of_lt_of_le hb2 this
end Go.Proofs.Ytcabnnfhcolcfaa
