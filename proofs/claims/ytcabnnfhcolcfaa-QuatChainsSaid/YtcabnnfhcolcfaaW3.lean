/- append onto words; Clone; the walk of sub. The walk of sub. The walks of word, Of, From. -/
import Derived.Test.YtcabnnfhcolcfaaW2
import Derived.Maps.AppendAt
import Derived.Lib.SliceRun
namespace Go.Proofs.Ytcabnnfhcolcfaa
set_option linter.unusedSimpArgs false
set_option linter.unusedVariables false
open Go.RowKit

def vals (xs : List Int) : List Value := xs.map (Value.int .u64)
theorem vals_length (xs : List Int) : (vals xs).length = xs.length := by simp [vals]
theorem vals_append (xs ys : List Int) : vals (xs ++ ys) = vals xs ++ vals ys := by simp [vals]
theorem vals_at (xs : List Int) (j : Nat) (hj : j < xs.length) : (vals xs)[j]? = some (.int .u64 (lim xs j)) := by
  simp [vals, lim, List.getD_eq_getElem?_getD, List.getElem?_eq_getElem hj]
/-- A row of words of the call's own, nil let in. -/
def Row (w : World) (base : Nat) (v : Value) (xs : List Int) : Prop := w.ownsRow base 101 1 v xs.length (vals xs)
theorem Row.own {w : World} {base g n c : Nat} {xs : List Int} (h : Row w base (.slice (some ⟨g, 0, none⟩) n c) xs) : Own w g xs ∧ base ≤ g ∧ n = xs.length ∧ n ≤ c ∧ c ≤ 9223372036854775807 := by
  have hh := h
  unfold Row at h
  rcases h.2 with ⟨h1, _⟩ | ⟨g', cap', cur, h1, hb, hh, h2, h3, h4, h5⟩
  · cases h1
  · simp only [Value.slice.injEq, Option.some.injEq, Addr.mk.injEq, and_true] at h1
    obtain ⟨rfl, hn, rfl⟩ := h1
    refine ⟨⟨cur, hh, by omega, fun j hj => ?_⟩, hb, hn, by omega, by simpa [maxLen] using h3⟩
    have := vals_at xs j hj
    rw [← h5, List.getElem?_take, if_pos (by omega)] at this
    simpa using this
theorem Row.slice {w : World} {base : Nat} {v : Value} {xs : List Int} (h : Row w base v xs) : (v = .slice none 0 0 ∧ xs = []) ∨ ∃ g c, v = .slice (some ⟨g, 0, none⟩) xs.length c := by
  rcases h.2 with ⟨h1, h2⟩ | ⟨g', cap', cur, h1, _⟩
  · exact .inl ⟨h1, List.eq_nil_of_length_eq_zero h2⟩
  · exact .inr ⟨_, _, h1⟩
/-- What append leaves, whatever the source. -/
theorem app64 {W : World} {base m c : Nat} {v : Value} {xs ys : List Int} {A : Option Addr} (ty : TypeId) (h : Row W base v xs) (hr : Rd W A m ys) (hl : xs.length + m ≤ 17592186044416) (hb : base ≤ W.heap.size) :
    ∃ v' W', (Builtin.append_ #[79, 79] ty #[v, .slice A m c]).run Try.prog W = .ok v' W' ∧ Row W' base v' (xs ++ ys) ∧ W.grownBy W' v.ownBlock ∧ (v'.ownBlock = v.ownBlock ∨ v'.ownBlock = some W.heap.size) := by
  obtain ⟨i0, hi, hzz⟩ := Option.map_eq_some_iff.1 info64
  simp only [Prod.mk.injEq] at hzz
  obtain ⟨hz0, hz1, hz2⟩ := hzz
  have hm : ys.length = m := hr.1
  rcases A with _ | ad
  · have h0 : m = 0 := by
      rcases Nat.eq_zero_or_pos m with h0 | h0
      · exact h0
      · obtain ⟨ad, h, _⟩ := hr.2 h0
        cases h
    subst h0
    obtain rfl : ys = [] := List.eq_nil_of_length_eq_zero hm
    refine ⟨v, W, ?_, by simpa using h, World.grownBy.refl W _, .inl rfl⟩
    rcases h.2 with ⟨rfl, hn⟩ | ⟨g, cap, cur, rfl, _, _, hnc, _⟩
    · simp [Builtin.append_, run_underlying Try.underlying79, sizeOf, typeInfo, hi, Builtin.lenOf, Builtin.firstCells]
    · simp [Builtin.append_, run_underlying Try.underlying79, sizeOf, typeInfo, hi, Builtin.lenOf, Builtin.firstCells, hnc, storeCells]
  · have hcells : ∀ j u, (vals ys)[j]? = some u → W.cell? (ad.add j) = some u := by
      intro j u hu
      have hj : j < ys.length := by
        rcases Nat.lt_or_ge j ys.length with h | h
        · exact h
        · rw [List.getElem?_eq_none (by rw [vals_length]; exact h)] at hu; cases hu
      obtain ⟨ad', h', hc⟩ := hr.2 (by omega)
      simp only [Option.some.injEq] at h'
      subst h'
      rw [vals_at ys j hj] at hu
      rw [← hu]
      exact hc j (by omega)
    obtain ⟨v1, w1, hrun, h2, h3, _, h5⟩ := run_append_own_at (P := Try.prog) W base 79 ty 101 i0 (.int .u64 0) 1 8 Try.underlying79 hi hz0 hz1 hz2 rfl (by omega) v xs.length (vals xs) h ad m c (vals ys) (by rw [vals_length, hm]; omega) hcells
      (by intro u hu; simp only [vals, List.mem_map] at hu; obtain ⟨q, _, rfl⟩ := hu; rfl) (by simp only [maxLen]; omega) (by omega) hb
    exact ⟨v1, w1, hrun, by unfold Row; rw [vals_append, List.length_append, hm]; exact h2, h3, h5⟩
theorem wpList_app64 {W : World} {base m c : Nat} {v : Value} {xs ys : List Int} {A : Option Addr} {ops : Array Oper} {rest : List Oper} {o : Oper} {a : Act} {Q : Exit → Act → World → Prop} (hgd : o.guard = none) (s x : Operand)
    (ho : o.op = .call { callee := .builtin .append, args := #[s, x], argTypes := #[79, 79] }) (hs : a.eval s = v) (hx : a.eval x = .slice A m c)
    (h : Row W base v xs) (hr : Rd W A m ys) (hl : xs.length + m ≤ 17592186044416) (hb : base ≤ W.heap.size)
    (hk : ∀ v' W', Row W' base v' (xs ++ ys) → W.grownBy W' v.ownBlock → (v'.ownBlock = v.ownBlock ∨ v'.ownBlock = some W.heap.size) → wpList Try.prog ops Q rest (a.put o.dst v') W') : wpList Try.prog ops Q (o :: rest) a W := by
  obtain ⟨v1, w1, hrun, h2, h3, h4⟩ := app64 (c := c) o.type h hr hl hb
  refine wpList_plain hgd fun K hK => ?_
  unfold Oper.wp execOp
  simp only [ho, resolve, invoke, builtin, Sem.run_bind, Sem.run_pure, Result.andThen_ok, List.map_toArray, List.map_cons, List.map_nil, hs, hx, hrun]
  exact hK _ _ (hk v1 w1 h2 h3 h4)
theorem Row.empty (w : World) (base : Nat) (hb : base ≤ w.heap.size) : Row (w.alloc (.cells #[] 101)) base (.slice (some ⟨w.heap.size, 0, none⟩) 0 0) [] := by
  have := World.ownsRow_lit (base := base) (e := 101) (size := 1) w #[] 0 hb (by simp [maxLen]) rfl
  simpa [Row, vals] using this

/-- What Clone tells: the same words in a row of the call's own; nil of nil. -/
def Cloned (w : World) (xs : List Int) (v : Value) (w' : World) : Prop := Row w' w.heap.size v xs
set_option maxHeartbeats 400000 in
theorem clone_any (A : Option Addr) (n c : Nat) (xs : List Int) (w : World) (hr : Rd w A n xs) (hn : n ≤ 1099511627777) :
    Calls Try.prog 124 #[.slice A n c] w (RetB w (Cloned w xs)) := by
  have hq := fun (W : World) => Lib.run_eql_slice_nil (P := Try.prog) W 79 101 A n c 0 0 Try.underlying79
  have HR := Lib.hid hr
  clear hr
  rcases A with _ | ad
  · have h0 : n = 0 := by
      rcases Nat.eq_zero_or_pos n with h0 | h0
      · exact h0
      · obtain ⟨ad, h, _⟩ := HR.out.2 h0
        cases h
    subst h0
    obtain rfl : xs = [] := List.eq_nil_of_length_eq_zero HR.out.1
    simp only [Option.isNone_none] at hq
    go_enter Try.func124, Try.ntmps124
    go_wp2
    go_ret
    exact RetB.mk (World.ownsRow_nil _ _ _ _) (Below.refl _ _)
  · simp only [Option.isNone_some] at hq
    go_enter Try.func124, Try.ntmps124
    go_wp2_with (at_builtin; (refine wpList_app64 (base := w.heap.size) (v := .slice (some ⟨w.heap.size, 0, none⟩) 0 0) (xs := []) (ys := xs) rfl (.tmp 5) (.tmp 6) rfl rfl rfl (Row.empty w _ (Nat.le_refl _)) (HR.out.below ((Below.refl _ _).alloc (Nat.le_refl _) _)) ?c1 ?c2 ?_); (case c1 => (simp; omega)); (case c2 => simp); intro v' w1 hrow hg hat)
    go_ret
    refine RetB.mk (by simpa [Cloned] using hrow) (((Below.refl _ _).alloc (Nat.le_refl _) _).grown hg (by simp) fun k hk => ?_)
    have : w.heap.size = k := by simpa [Value.ownBlock] using hk
    omega
end Go.Proofs.Ytcabnnfhcolcfaa
namespace Go.Proofs.Ytcabnnfhcolcfaa
set_option linter.unusedSimpArgs false
set_option linter.unusedVariables false
open Go.RowKit

theorem u64_under (a : Int) (h : a < 0) (h2 : -18446744073709551616 ≤ a) : IntKind.u64.wrap a = a + 18446744073709551616 := by
  simp only [IntKind.wrap]; simp [IntKind.bits, IntKind.signed]; omega
def SubInv (w wr : World) (g n k : Nat) (br : Int) (xs ys zs : List Int) : Prop :=
  Own wr g zs ∧ w.heap.size ≤ g ∧ zs.length = n ∧ Okl zs ∧ (0 ≤ br ∧ br ≤ 1) ∧ zs.drop k = xs.drop k ∧ lv (zs.take k) - 18446744073709551616 ^ k * br = lv (xs.take k) - lv (ys.take k) ∧ Below w.heap.size w wr
theorem drop_set_lt (xs : List Int) (n : Nat) (x : Int) : (xs.set n x).drop (n + 1) = xs.drop (n + 1) := by
  refine List.ext_getElem? fun i => ?_
  simp only [List.getElem?_drop]
  rw [List.getElem?_set_ne (by omega)]
theorem SubInv.step {w wr : World} {g n k : Nat} {br : Int} {xs ys zs : List Int} (h : SubInv w wr g n k br xs ys zs) (hk : k < n) (s b' : Int) (hs : 0 ≤ s ∧ s < 18446744073709551616) (hb : 0 ≤ b' ∧ b' ≤ 1) (e : s - 18446744073709551616 * b' = lim xs k - lim ys k - br) :
    SubInv w (wr.setCell ⟨g, k, none⟩ (.int .u64 s)) g n (k + 1) b' xs ys (zs.set k s) := by
  obtain ⟨h1, h2, h3, h4, h5, h6, h7, h8⟩ := h
  refine ⟨h1.set_ k s (by omega), h2, by simpa using h3, h4.set_ k hs, hb, ?_, ?_, h8.setCell h2 _⟩
  · rw [drop_set_lt]
    have := congrArg (List.drop 1) h6
    simpa [List.drop_drop] using this
  · rw [lv_take_set zs k (by omega), lv_take_succ', lv_take_succ', Int.pow_succ]
    have : lv (zs.take k) + 18446744073709551616 ^ k * s - 18446744073709551616 ^ k * 18446744073709551616 * b' = lv (zs.take k) + 18446744073709551616 ^ k * (s - 18446744073709551616 * b') := by grind
    rw [this, e]
    grind
theorem lim_of_drop {xs zs : List Int} {k : Nat} (h : zs.drop k = xs.drop k) : lim zs k = lim xs k := by
  have := congrArg (fun l => l[0]?) h
  simp only [List.getElem?_drop, Nat.add_zero] at this
  simp [lim, List.getD_eq_getElem?_getD, this]

set_option maxHeartbeats 400000 in
theorem sub_raw (A B : Option Addr) (n m c d : Nat) (xs ys : List Int) (w : World) (hr : Rd w A n xs) (hs : Rd w B m ys) (hn : Okl xs) (hm : Okl ys) (hmn : m ≤ n) (hle : lv ys ≤ lv xs) (h1 : n ≤ 1099511627777) :
    Calls Try.prog 129 #[.slice A n c, .slice B m d] w (RetB w fun v w' => NatAt w' v (lv xs - lv ys)) := by
  obtain rfl := hr.1
  have HR := Lib.hid hr
  have HS := Lib.hid hs
  have HN := Lib.hid hn
  have HM := Lib.hid hm
  have HLE := Lib.hid hle
  have HC := Lib.hid (clone_any A xs.length c xs w hr h1)
  clear hr hs hn hm hle
  go_enter Try.func129, Try.ntmps129
  go_wp2_with ((go_at_call 124); (refine (HC.out).mono ?_); rintro e w1 ⟨⟨v, rfl, hrow⟩, hb1⟩; (rcases hrow.slice with ⟨rfl, rfl⟩ | ⟨g, c1, rfl⟩))
  · have HB1 := Lib.hid hb1
    clear hb1 HC hrow
    go_loopw [6, 13] (fun cv iv wr => iv = .int .i64 0 ∧ wr = w1) (fun _ v _ => (intOf v).toNat)
    case atStart => exact ⟨rfl, rfl⟩
    case round =>
      obtain ⟨rfl, rfl⟩ := hrel
      have HT := Lib.hid (trim_any none 0 0 [] wr (Nat.le_refl _) (by omega) (Rd.nil _ _) Okl.nil)
      go_wp2_with ((go_at_call 134); (refine (HT.out).mono ?_); rintro e w' ⟨⟨v, rfl, hv⟩, rfl⟩)
      go_ret
      have h0 : ys = [] := List.eq_nil_of_length_eq_zero (by have := HS.out.1; simp at hmn; omega)
      have h2 := hv.nat
      refine RetB.mk ?_ HB1.out
      rw [h0]
      exact h2
  · obtain ⟨hown, hge, _, hc1, hc2⟩ := hrow.own
    have HB1 := Lib.hid hb1
    have HI0 := Lib.hid (show SubInv w w1 g xs.length 0 0 xs ys xs from ⟨hown, hge, rfl, HN.out, by omega, rfl, by simp [lv], hb1⟩)
    clear hb1 HC hrow hown
    go_loopw [6, 13] (fun cv iv wr => ∃ (k : Nat) (br : Int) (zs : List Int), k ≤ xs.length ∧ iv = .int .i64 k ∧ cv = .int .u64 br ∧ Hid (SubInv w wr g xs.length k br xs ys zs)) (fun _ v _ => xs.length - (intOf v).toNat)
    case atStart => exact ⟨0, 0, xs, by omega, rfl, rfl, HI0⟩
    case round =>
      obtain ⟨k, br, zs, hk, rfl, rfl, HI⟩ := hrel
      by_cases hkn : k < xs.length
      · have hcz := HI.out.1.cell k (by have := HI.out.2.2.1; omega)
        have hfz := HI.out.1.frozen k
        have hlz : lim zs k = lim xs k := lim_of_drop HI.out.2.2.2.2.2.1
        rw [hlz] at hcz
        clear hlz
        have hbx := HN.out.at_ k
        have hbr := HI.out.2.2.2.2.1
        by_cases hkm : k < m
        · obtain ⟨bd, rfl, hcb⟩ := (HS.out.below HI.out.2.2.2.2.2.2.2).at_ k hkm
          have hby := HM.out.at_ k
          by_cases c1 : br + lim ys k < 18446744073709551616
          · by_cases c2 : lim xs k < br + lim ys k
            · have hw := u64_under (lim xs k - (br + lim ys k)) (by omega) (by omega)
              go_wp2
              go_roundw
              case rel => exact ⟨k + 1, 1, _, by omega, by go_num, rfl, Lib.hid (HI.out.step hkn _ 1 (by omega) (by omega) (by omega))⟩
              case measure => simp [intOf]; omega
            · go_wp2
              go_roundw
              case rel => exact ⟨k + 1, 0, _, by omega, by go_num, rfl, Lib.hid (HI.out.step hkn _ 0 (by omega) (by omega) (by omega))⟩
              case measure => simp [intOf]; omega
          · have hw := u64_over (br + lim ys k) (by omega) (by omega)
            have h0 : br + lim ys k - 18446744073709551616 = 0 := by omega
            rw [h0] at hw
            clear h0
            go_wp2
            go_roundw
            case rel => exact ⟨k + 1, 1, _, by omega, by go_num, rfl, Lib.hid (HI.out.step hkn _ 1 (by omega) (by omega) (by omega))⟩
            case measure => simp [intOf]; omega
        · have hby : lim ys k = 0 := lim_end (by have := HS.out.1; omega)
          have HY := Lib.hid hby
          clear hby
          by_cases c2 : lim xs k < br
          · have hw := u64_under (lim xs k - br) (by omega) (by omega)
            go_wp2
            go_roundw
            case rel => exact ⟨k + 1, 1, _, by omega, by go_num, rfl, Lib.hid (HI.out.step hkn _ 1 (by omega) (by omega) (by rw [HY.out]; omega))⟩
            case measure => simp [intOf]; omega
          · go_wp2
            go_roundw
            case rel => exact ⟨k + 1, 0, _, by omega, by go_num, rfl, Lib.hid (HI.out.step hkn _ 0 (by omega) (by omega) (by rw [HY.out]; omega))⟩
            case measure => simp [intOf]; omega
      · obtain rfl : k = xs.length := by omega
        obtain ⟨g1, g2, g3, g4, g5, g6, g7, g8⟩ := HI.out
        have hl : lv zs = lv xs - lv ys := by
          rw [List.take_of_length_le (by omega), List.take_of_length_le (by omega), List.take_of_length_le (by have := HS.out.1; omega)] at g7
          have h3 := lv_lt g4
          have h4 := lv_nonneg g4
          have h5 := HLE.out
          rw [g3] at h3
          have h6 : br = 0 ∨ br = 1 := by omega
          rcases h6 with rfl | rfl
          · omega
          · omega
        have HL := Lib.hid hl
        have HT := trim_any (some ⟨g, 0, none⟩) xs.length c1 zs wr hc1 hc2 (g1.rd g3) g4
        have HT := Lib.hid HT
        have HB := Lib.hid g8
        clear g1 g2 g3 g4 g5 g6 g7 g8 hl
        go_wp2_with ((go_at_call 134); (refine (HT.out).mono ?_); rintro e w' ⟨⟨v, rfl, hv⟩, rfl⟩)
        go_ret
        rw [← HL.out]
        exact RetB.mk hv.nat HB.out
theorem sub_any (va vb : Value) (a b : Int) (w : World) (ha : NatAt w va a) (hb : NatAt w vb b) (hla : Sm a) (hle : b ≤ a) :
    Calls Try.prog 129 #[va, vb] w (RetB w fun v w' => NatAt w' v (a - b)) := by
  obtain ⟨A, n, c, xs, rfl, hc, hr, hn, hv⟩ := ha
  obtain ⟨B, m, d, ys, rfl, hd, hs, hm, hu⟩ := hb
  have h1 : n ≤ 1099511627777 := by rw [← hr.1]; exact hn.len hv hla
  have h2 : m ≤ n := by
    rcases Nat.lt_or_ge n m with h | h
    · have := lv_len_lt hn hm (by rw [hr.1, hs.1]; exact h)
      omega
    · exact h
  rw [← hv, ← hu]
  exact sub_raw A B n m c d xs ys w hr hs hn.1 hm.1 h2 (by omega) h1
end Go.Proofs.Ytcabnnfhcolcfaa
namespace Go.Proofs.Ytcabnnfhcolcfaa
set_option linter.unusedSimpArgs false
set_option linter.unusedVariables false
open Go.RowKit

theorem Norm.one {n : Int} (h0 : 0 < n) (h1 : n < 18446744073709551616) : Norm [n] := ⟨fun y hy => by rw [List.mem_singleton.1 hy]; omega, fun h => by simp; omega⟩
theorem Own.lit (W : World) (n : Int) : Own (W.alloc (.cells #[.int .u64 n] 101)) W.heap.size [n] := by
  refine ⟨_, heap_alloc_new W _, by simp, fun j hj => ?_⟩
  obtain rfl : j = 0 := by simpa using hj
  rfl
theorem NatAt.len_pos {w : World} {A : Option Addr} {n : Nat} {xs : List Int} {m : Int} (hr : Rd w A n xs) (hn : Norm xs) (hv : lv xs = m) : 0 < n ↔ 0 < m := by
  have h := hn.zero_iff
  have h2 := lv_nonneg hn.1
  have h3 := hr.1
  constructor
  · intro h0
    have : xs ≠ [] := by rintro rfl; simp at h3; omega
    have : lv xs ≠ 0 := fun e => this (h.1 e)
    omega
  · intro h0
    rcases Nat.eq_zero_or_pos n with rfl | h4
    · have := List.eq_nil_of_length_eq_zero h3
      have := h.2 this
      omega
    · exact h4
set_option maxHeartbeats 400000 in
theorem word_any (n : Int) (w : World) (h0 : 0 ≤ n) (h1 : n < 18446744073709551616) :
    Calls Try.prog 97 #[.int .u64 n] w (RetB w fun v w' => NatAt w' v n) := by
  by_cases hz : n = 0
  · subst hz
    go_enter Try.func97, Try.ntmps97
    go_wp2
    go_ret
    exact RetB.mk (NatAt.zero _ _ _ (by omega)) (Below.refl _ _)
  · go_enter Try.func97, Try.ntmps97
    go_wp2
    go_ret
    exact RetB.mk ⟨_, _, _, [n], rfl, by omega, (Own.lit w n).rd rfl, Norm.one (by omega) h1, by simp [lv]⟩ ((Below.refl _ _).alloc (Nat.le_refl _) _)

set_option maxHeartbeats 400000 in
theorem of_any (neg : Bool) (v : Value) (m : Int) (w : World) (hv : NatAt w v m) (hs : Sm m) :
    Calls Try.prog 96 #[.bool neg, v] w (RetB w fun r w' => IntAt w' r (if neg then -m else m)) := by
  obtain ⟨A, n, c, xs, rfl, hc, hr, hn, hv⟩ := hv
  have h1 : n ≤ 1099511627777 := by rw [← hr.1]; exact hn.len hv hs
  have h0 := NatAt.len_pos hr hn hv
  have hm := lv_nonneg hn.1
  rw [hv] at hm
  have HN := Lib.hid (show NatAt w (.slice A n c) m from ⟨A, n, c, xs, rfl, hc, hr, hn, hv⟩)
  clear hr hn hv hs
  have fin : ∀ (b : Bool) (i : Int), b = decide (i < 0) → (i.natAbs : Int) = m → RetB w (fun r w' => IntAt w' r i) (.returned (.agg #[.bool b, .slice A n c])) (w.alloc (.cells #[.bool b, .slice A n c] 81)) := by
    intro b i e e2
    have hb := (Below.refl w.heap.size w).alloc (Nat.le_refl _) (.cells #[.bool b, .slice A n c] 81)
    exact RetB.mk ⟨.slice A n c, by rw [e], by rw [e2]; exact HN.out.below hb⟩ hb
  have FIN := Lib.hid fin
  have H0 := Lib.hid h0
  clear fin h0
  cases neg
  · go_enter Try.func96, Try.ntmps96
    go_wp2
    refine bodyPost_ret (v := .agg #[.bool false, .slice A n c]) (by simp [results, Try.results96, go_sem]) rfl ?_
    exact FIN.out _ _ (by simp; omega) (by omega)
  · by_cases hp : 0 < n
    · have hm0 := H0.out.1 hp
      go_enter Try.func96, Try.ntmps96
      go_wp2
      refine bodyPost_ret (v := .agg #[.bool true, .slice A n c]) (by simp [results, Try.results96, go_sem]) rfl ?_
      exact FIN.out _ _ (by simp; omega) (by simp; omega)
    · have hm0 : m = 0 := by have := H0.out.2; omega
      have HM := Lib.hid hm0
      clear hm0
      go_enter Try.func96, Try.ntmps96
      go_wp2
      refine bodyPost_ret (v := .agg #[.bool false, .slice A n c]) (by simp [results, Try.results96, go_sem]) rfl ?_
      exact FIN.out _ _ (by rw [HM.out]; rfl) (by rw [HM.out]; rfl)

/-! ### a whole number, opened -/
theorem IntAt.open_ {w : World} {v : Value} {i : Int} (h : IntAt w v i) : ∃ A n c, v = .agg #[.bool (decide (i < 0)), .slice A n c] ∧ Hid (NatAt w (.slice A n c) i.natAbs) := by
  obtain ⟨mag, rfl, A, n, c, xs, rfl, h⟩ := h
  exact ⟨A, n, c, rfl, A, n, c, xs, rfl, h⟩
theorem NatAt.open_ {w : World} {v : Value} {i : Int} (h : NatAt w v i) : ∃ A n c, v = .slice A n c ∧ Hid (NatAt w (.slice A n c) i) := by
  obtain ⟨A, n, c, xs, rfl, h⟩ := h
  exact ⟨A, n, c, rfl, A, n, c, xs, rfl, h⟩
theorem IntAt.mk {w : World} {v : Value} {i : Int} (h : NatAt w v i.natAbs) : IntAt w (.agg #[.bool (decide (i < 0)), v]) i := ⟨v, rfl, h⟩
/-- A whole number stored into a result's two cells. -/
theorem IntAt.put {w : World} {A : Option Addr} {n c b : Nat} {i : Int} {u0 u1 : Value} (h : NatAt w (.slice A n c) i.natAbs) (h0 : w.cell? ⟨b, 0, none⟩ = some u0) (h0' : ∀ x, u0 ≠ .int .u64 x) (h1 : w.cell? ⟨b, 1, none⟩ = some u1) (h1' : ∀ x, u1 ≠ .int .u64 x) {f : Bool} (hf : f = decide (i < 0)) :
    IntAt ((w.setCell ⟨b, 0, none⟩ (.bool f)).setCell ⟨b, 1, none⟩ (.slice A n c)) (.agg #[.bool f, .slice A n c]) i := by
  subst hf
  exact IntAt.mk ((h.stored h0 h0' _).stored (u0 := u1) (by rw [World.cell?_setCell_other _ _ _ _ (by simp)]; exact h1) h1' _)
/-! ### From -/
theorem Sm.of_bits {m : Int} (p : Nat) (hp : p ≤ 70368744177664) (h : -(2 : Int) ^ p < m) (h2 : m < 2 ^ p) : Sm m := ⟨p, hp, h, h2⟩
theorem Sm.word {m : Int} (h : -18446744073709551616 ≤ m) (h2 : m ≤ 18446744073709551616) : Sm m := ⟨65, by omega, by omega, by omega⟩
set_option maxHeartbeats 400000 in
theorem from_any (n : Int) (w : World) (h0 : -9223372036854775808 ≤ n) (h1 : n ≤ 9223372036854775807) :
    Calls Try.prog 50 #[.int .i64 n] w (RetB w fun r w' => IntAt w' r n) := by
  by_cases hn : n < 0
  · have hw1 := u64_under n (by omega) (by omega)
    have hw2 : IntKind.u64.wrap (-(n + 18446744073709551616)) = -n := by rw [u64_under _ (by omega) (by omega)]; omega
    go_enter Try.func50, Try.ntmps50
    go_wp2_with (first
      | (go_at_call 97; (refine (word_any _ _ (by omega) (by omega)).mono ?_); rintro e w1 ⟨⟨v1, rfl, hv1⟩, hb1⟩; (obtain ⟨hc1, hf1⟩ := bcell hb1); (have hs1 := hb1.size); (try simp at hs1); (have hz1_0 : w.heap.size < w1.heap.size := by omega))
      | (go_at_call 96; (refine (of_any _ _ _ _ hv1 (Sm.word (by omega) (by omega))).mono ?_); rintro e w2 ⟨⟨v2, rfl, hv2⟩, hb2⟩; (obtain ⟨hc2, hf2⟩ := bcell hb2); (have hs2 := hb2.size); (try simp at hs2); (have hz2_0 : w.heap.size < w2.heap.size := by omega); (obtain ⟨A2, n2, c2, rfl, HN2⟩ := hv2.open_); clear hv2))
    refine bodyPost_ret (v := .agg #[.bool true, .slice A2 n2 c2]) (by simp [results, Try.results50, go_sem, *]) rfl ?_
    refine RetB.mk (IntAt.put (by simpa using HN2.out) (u0 := .bool false) (by go_simp) (by simp) (u1 := .slice none 0 0) (by go_simp) (by simp) (by simp; omega)) (by repeat (first | (with_reducible assumption) | exact Below.refl _ _ | (with_reducible refine Below.setCell ?_ (by first | (simp; done) | (simp; omega) | omega) _) | (with_reducible refine Below.alloc ?_ (by first | (simp; done) | (simp; omega) | omega) _) | (with_reducible refine below_drewN' ?_ _) | (with_reducible refine Below.drew ?_) | (refine below_after (by with_reducible assumption) ?_ (by first | (simp; done) | (simp; omega) | omega))))
  · go_enter Try.func50, Try.ntmps50
    go_wp2_with (first
      | (go_at_call 97; (refine (word_any _ _ (by omega) (by omega)).mono ?_); rintro e w1 ⟨⟨v1, rfl, hv1⟩, hb1⟩; (obtain ⟨hc1, hf1⟩ := bcell hb1); (have hs1 := hb1.size); (try simp at hs1); (have hz1_0 : w.heap.size < w1.heap.size := by omega))
      | (go_at_call 96; (refine (of_any _ _ _ _ hv1 (Sm.word (by omega) (by omega))).mono ?_); rintro e w2 ⟨⟨v2, rfl, hv2⟩, hb2⟩; (obtain ⟨hc2, hf2⟩ := bcell hb2); (have hs2 := hb2.size); (try simp at hs2); (have hz2_0 : w.heap.size < w2.heap.size := by omega); (obtain ⟨A2, n2, c2, rfl, HN2⟩ := hv2.open_); clear hv2))
    refine bodyPost_ret (v := .agg #[.bool (decide (n < 0)), .slice A2 n2 c2]) (by simp [results, Try.results50, go_sem, *]) rfl ?_
    refine RetB.mk (IntAt.put (by simpa using HN2.out) (u0 := .bool false) (by go_simp) (by simp) (u1 := .slice none 0 0) (by go_simp) (by simp) (by simp)) (by repeat (first | (with_reducible assumption) | exact Below.refl _ _ | (with_reducible refine Below.setCell ?_ (by first | (simp; done) | (simp; omega) | omega) _) | (with_reducible refine Below.alloc ?_ (by first | (simp; done) | (simp; omega) | omega) _) | (with_reducible refine below_drewN' ?_ _) | (with_reducible refine Below.drew ?_) | (refine below_after (by with_reducible assumption) ?_ (by first | (simp; done) | (simp; omega) | omega))))
end Go.Proofs.Ytcabnnfhcolcfaa
