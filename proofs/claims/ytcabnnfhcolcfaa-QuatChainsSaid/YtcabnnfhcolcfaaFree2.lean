/- A region whose calls may come in any order, and beside them operations that only yield (an error taken out of a pair) and for which nothing waits. -/
import Derived.Test.YtcabnnfhcolcfaaFree
namespace Go.Proofs.Ytcabnnfhcolcfaa
set_option linter.unusedSimpArgs false
set_option linter.unusedVariables false
open Go.RowKit
section
variable {P : Program} {ops : Array Oper} {Q : Exit → Act → World → Prop} {md : Region.Mode} {S : World → Prop} {ds : List Nat}
/-- All that the law asks of the region, by the kernel. -/
def freeB2 (md : Region.Mode) (ops : Array Oper) (lo : List Nat) (l : Array Bool) (pre : List (Nat × Nat)) (n : Nat) (l' : Array Bool) : Bool :=
  Region.closedB md ops l && (l.size == ops.size) && nodupB (pre.map (·.1)) && nodupB (pre.map (·.2)) &&
  pre.all (fun p => !(l.getD p.1 true) && (match ops[p.1]? with
    | some o => o.dst == some p.2 && o.guard.isNone
    | none => false) && decide (p.2 < n)) &&
  (List.range ops.size).all (fun j => l.getD j true || (pre.map (·.1)).contains j || pre.all (fun p => lo.contains p.1 || Region.reachB md ops p.1 6 j)) &&
  Region.noSelect ops && lo.all (fun i => Region.free md ops (setAll l (pre.filter fun p => !lo.contains p.1)) i) &&
  topoB md ops l pre && (setAll l pre == l')
/-- What yields whatever the world, and of its value Φ holds. -/
def LooseStep (P : Program) (md : Region.Mode) (ops : Array Oper) (S : World → Prop) (pre : List (Nat × Nat)) (Φ : Nat → Value → World → Prop) (a0 : Act) (w0 : World) (i : Nat) : Prop :=
  ∀ (o : Oper), ops[i]? = some o → ∀ (us : Nat → Value) (w : World), Below w0.heap.size w0 w → S w → (∀ p ∈ pre, (o.after.any fun e => Region.binds md e && e.on == p.1) = true → Φ p.1 (us p.1) w) →
    ∃ v, Yields P ops o v (frameOf a0 us pre) ∧ Φ i v w
def Step2 (P : Program) (md : Region.Mode) (ops : Array Oper) (Q : Exit → Act → World → Prop) (S : World → Prop) (pre : List (Nat × Nat)) (Φ : Nat → Value → World → Prop) (a0 : Act) (w0 : World) (lo : List Nat) (i : Nat) : Prop :=
  if lo.contains i = true then LooseStep P md ops S pre Φ a0 w0 i else FreeStep P md ops Q S pre Φ a0 w0 i
theorem free2_ {fuel n : Nat} {l : Array Bool} {a0 : Act} {w0 : World} (pre : List (Nat × Nat)) (lo : List Nat) (Φ : Nat → Value → World → Prop) (l' : Array Bool) (hn : a0.tmps.size = n) (hB : freeB2 md ops lo l pre n l' = true)
    (hst : ∀ i v w w', Φ i v w → Below w.heap.size w w' → Φ i v w') (hSst : ∀ w w', S w → Below w.heap.size w w' → S w') (hS0 : S w0)
    (hQ : ∀ c a w (d : Nat) v, Q (.panic c) (Act.put a (some d) v) w → Q (.panic c) a w)
    (hstep : ∀ p ∈ pre, Step2 P md ops Q S pre Φ a0 w0 lo p.1)
    (hend : ∀ (us : Nat → Value) (w : World), Below w0.heap.size w0 w → S w → (∀ p ∈ pre, Φ p.1 (us p.1) w) → wpAnyLast P md ops Q S ds fuel l' (frameOf a0 us pre) w) :
    wpAnyLast P md ops Q S ds (fuel + pre.length) l a0 w0 := by
  simp only [freeB2, Bool.and_eq_true, beq_iff_eq] at hB
  obtain ⟨⟨⟨⟨⟨⟨⟨⟨⟨hcl, hls⟩, hnd1⟩, hnd2⟩, hall⟩, hwait⟩, hsel⟩, hfree⟩, htopo⟩, hset⟩ := hB
  subst hset
  have hall' : ∀ p ∈ pre, l.getD p.1 true = false ∧ (∃ o, ops[p.1]? = some o ∧ o.dst = some p.2 ∧ o.guard = none) ∧ p.2 < a0.tmps.size := fun p hp => by
    have h := List.all_eq_true.1 hall p hp
    simp only [Bool.and_eq_true, Bool.not_eq_true', decide_eq_true_eq] at h
    obtain ⟨⟨h1, h2⟩, h3⟩ := h
    cases ho : ops[p.1]? with
    | none => rw [ho] at h2; simp at h2
    | some o =>
      rw [ho] at h2
      simp only [Bool.and_eq_true, beq_iff_eq, Option.isNone_iff_eq_none] at h2
      exact ⟨h1, ⟨o, rfl, h2.1, h2.2⟩, by rw [hn]; exact h3⟩
  -- the walk over all orders
  have main : ∀ (m : Nat) (listed : Array Bool) (a : Act) (w : World), left_ listed pre = m → listed.size = ops.size → (∀ k, (∀ p ∈ pre, p.1 ≠ k) → listed[k]? = l[k]?) → (∀ k, l.getD k false = true → listed.getD k false = true) → ListedClosed md ops listed →
      a.defers = a0.defers → a.tmps.size = a0.tmps.size → (∀ t, (∀ p ∈ pre, p.2 ≠ t) → a.tmps[t]? = a0.tmps[t]?) → (∀ p ∈ pre, listed.getD p.1 false = true → Φ p.1 (a.tmps.getD p.2 undef) w) →
      Below w0.heap.size w0 w → S w → wpAnyLast P md ops Q S ds (fuel + m) listed a w := by
    intro m
    induction m with
    | zero =>
      intro listed a w hm hsz hout hsub hclosed hdef htsz hagree hphi hb hS
      have hz := left_zero listed pre hm
      have e1 : listed = setAll l pre := by
        refine Array.ext_getElem? fun k => ?_
        obtain ⟨s1, s2⟩ := setAll_at l pre k
        by_cases hk : ∃ p ∈ pre, p.1 = k
        · obtain ⟨p, hp, hpk⟩ := hk
          have hlt : k < listed.size := by
            obtain ⟨_, ⟨o, ho, _⟩, _⟩ := hall' p hp
            rw [hsz, ← hpk]; exact (Array.getElem?_eq_some_iff.1 ho).1
          rw [s2 p hp hpk (by rw [hls, ← hsz]; exact hlt)]
          have := hz p hp
          rw [hpk] at this
          rw [Array.getElem?_eq_getElem hlt]
          simp only [Array.getD_eq_getD_getElem?, Array.getElem?_eq_getElem hlt, Option.getD_some] at this
          rw [this]
        · have hk' : ∀ p ∈ pre, p.1 ≠ k := fun p hp e => hk ⟨p, hp, e⟩
          rw [s1 hk', hout k hk']
      have hfr : a = frameOf a0 (fun i => match pre.find? (fun p => p.1 == i) with | some p => a.tmps.getD p.2 undef | none => undef) pre := by
        have hus : ∀ p ∈ pre, (match pre.find? (fun q => q.1 == p.1) with | some q => a.tmps.getD q.2 undef | none => undef) = a.tmps.getD p.2 undef := fun p hp => by
          rw [find_nodup pre p hp hnd1]
        cases a with
        | mk tm df =>
          have h1 := frameOf_defers a0 (fun i => match pre.find? (fun p => p.1 == i) with | some p => (⟨tm, df⟩ : Act).tmps.getD p.2 undef | none => undef) pre
          have h2 := frameOf_size a0 (fun i => match pre.find? (fun p => p.1 == i) with | some p => (⟨tm, df⟩ : Act).tmps.getD p.2 undef | none => undef) pre
          generalize hF : frameOf a0 (fun i => match pre.find? (fun p => p.1 == i) with | some p => (⟨tm, df⟩ : Act).tmps.getD p.2 undef | none => undef) pre = F at *
          cases F with
          | mk ft fd =>
            simp only at h1 h2 hdef htsz
            have e2 : tm = ft := by
              refine Array.ext_getElem? fun t => ?_
              obtain ⟨f1, f2⟩ := frameOf_at a0 (fun i => match pre.find? (fun p => p.1 == i) with | some p => (⟨tm, df⟩ : Act).tmps.getD p.2 undef | none => undef) pre t hnd2
              rw [hF] at f1 f2
              simp only at f1 f2
              by_cases ht : ∃ p ∈ pre, p.2 = t
              · obtain ⟨p, hp, hpt⟩ := ht
                have hlt : t < a0.tmps.size := hpt ▸ (hall' p hp).2.2
                rw [f2 p hp hpt hlt, hus p hp, hpt]
                simp [Array.getD_eq_getD_getElem?, Array.getElem?_eq_getElem (show t < tm.size by omega)]
              · have ht' : ∀ p ∈ pre, p.2 ≠ t := fun p hp e => ht ⟨p, hp, e⟩
                rw [f1 ht']; exact hagree t ht'
            rw [e2, hdef, h1]
      rw [e1, hfr]
      refine hend _ w hb hS fun p hp => ?_
      simp only [find_nodup pre p hp hnd1]
      refine hphi p hp ?_
      have h1 := hz p hp
      obtain ⟨_, ⟨o, ho, _⟩, _⟩ := hall' p hp
      have hlt : p.1 < listed.size := by rw [hsz]; exact (Array.getElem?_eq_some_iff.1 ho).1
      simp only [Array.getD_eq_getD_getElem?, Array.getElem?_eq_getElem hlt, Option.getD_some] at h1 ⊢
      exact h1
    | succ m ih =>
      intro listed a w hm hsz hout hsub hclosed hdef htsz hagree hphi hb hS
      have hsome := left_pos listed pre (by omega)
      obtain ⟨pr, hpr, hrd⟩ := topo_ready pre l listed htopo hsz hsub hsome
      have each : ∀ p ∈ pre, p.1 ∈ Region.ready md ops listed → ∃ oi, ops[p.1]? = some oi ∧ (∀ v w', Φ p.1 v w' → Below w.heap.size w w' → wpAnyLast P md ops Q S ds (fuel + m) (listed.setIfInBounds p.1 true) (a.put oi.dst v) w') ∧
          (lo.contains p.1 = false → ∀ K : Act → World → Prop, Shut (∀ v w', Φ p.1 v w' → Below w.heap.size w w' → K (a.put oi.dst v) w') → Oper.wp P oi a w K Q) ∧ (lo.contains p.1 = true → ∃ v, Yields P ops oi v a ∧ Φ p.1 v w) ∧ oi.guard = none ∧ oi.dst = some p.2 := by
        intro p hp hi
        have hmem := mem_ready.1 hi
        obtain ⟨hun, oi, hoi, hdeps⟩ := hmem
        have hilt : p.1 < listed.size := by rw [hsz]; exact (Array.getElem?_eq_some_iff.1 hoi).1
        obtain ⟨_, ⟨o, ho, hod, hog⟩, hplt⟩ := hall' p hp
        obtain rfl : oi = o := Option.some.inj (hoi.symm.trans ho)
        have hus : ∀ q ∈ pre, (match pre.find? (fun r => r.1 == q.1) with | some r => a.tmps.getD r.2 undef | none => undef) = a.tmps.getD q.2 undef := fun q hq => by
          rw [find_nodup pre q hq hnd1]
        have hfr : a = frameOf a0 (fun i => match pre.find? (fun p => p.1 == i) with | some p => a.tmps.getD p.2 undef | none => undef) pre := by
          cases a with
          | mk tm df =>
            have h1 := frameOf_defers a0 (fun i => match pre.find? (fun p => p.1 == i) with | some p => (⟨tm, df⟩ : Act).tmps.getD p.2 undef | none => undef) pre
            have h2 := frameOf_size a0 (fun i => match pre.find? (fun p => p.1 == i) with | some p => (⟨tm, df⟩ : Act).tmps.getD p.2 undef | none => undef) pre
            generalize hF : frameOf a0 (fun i => match pre.find? (fun p => p.1 == i) with | some p => (⟨tm, df⟩ : Act).tmps.getD p.2 undef | none => undef) pre = F at *
            cases F with
            | mk ft fd =>
              simp only at h1 h2 hdef htsz
              have e2 : tm = ft := by
                refine Array.ext_getElem? fun t => ?_
                obtain ⟨f1, f2⟩ := frameOf_at a0 (fun i => match pre.find? (fun p => p.1 == i) with | some p => (⟨tm, df⟩ : Act).tmps.getD p.2 undef | none => undef) pre t hnd2
                rw [hF] at f1 f2
                simp only at f1 f2
                by_cases ht : ∃ p ∈ pre, p.2 = t
                · obtain ⟨q, hq, hqt⟩ := ht
                  have hlt : t < a0.tmps.size := hqt ▸ (hall' q hq).2.2
                  rw [f2 q hq hqt hlt, hus q hq, hqt]
                  simp [Array.getD_eq_getD_getElem?, Array.getElem?_eq_getElem (show t < tm.size by omega)]
                · have ht' : ∀ p ∈ pre, p.2 ≠ t := fun p hp e => ht ⟨p, hp, e⟩
                  rw [f1 ht']; exact hagree t ht'
              rw [e2, hdef, h1]
        have hst1 := hstep p hp
        unfold Step2 at hst1
        refine ⟨oi, hoi, ?_, ?_, ?_, hog, hod⟩
        · intro v w' hv hbw
          have hcs := hclosed.set hi
          refine ih (listed.setIfInBounds p.1 true) (a.put oi.dst v) w' ?_ (by simpa using hsz) ?_ ?_ hcs ?_ ?_ ?_ ?_ ?_ (hSst w w' hS hbw)
          · have := left_set listed p.1 hilt pre hnd1 (List.mem_map_of_mem hp) hun
            omega
          · intro k hk
            rw [Array.getElem?_setIfInBounds_ne (hk p hp)]; exact hout k hk
          · intro k hk; exact getD_set_true (hsub k hk)
          · rw [hod]; exact hdef
          · rw [hod]; simpa [Act.put] using htsz
          · intro t ht
            rw [hod]
            simp only [Act.put]
            rw [Array.getElem?_setIfInBounds_ne (ht p hp)]; exact hagree t ht
          · intro q hq hql
            rw [hod]
            simp only [Act.put]
            by_cases e : q.1 = p.1
            · have e2 : q = p := by
                have h1 := find_nodup pre q hq hnd1
                have h2 := find_nodup pre p hp hnd1
                rw [e] at h1
                exact Option.some.inj (h1.symm.trans h2)
              subst e2
              rw [Array.getD_eq_getD_getElem?, Array.getElem?_setIfInBounds_self_of_lt (by omega)]
              exact hv
            · have hne : q.2 ≠ p.2 := fun e2 => e (by rw [snd_nodup pre q p hq hp hnd2 e2])
              rw [Array.getD_eq_getD_getElem?, Array.getElem?_setIfInBounds_ne (Ne.symm hne), ← Array.getD_eq_getD_getElem?]
              rw [getD_set_ne false (Ne.symm e)] at hql
              exact hst _ _ _ _ (hphi q hq hql) hbw
          · exact below_after hbw hb hb.size
        · intro hlo K hK
          rw [if_neg (by rw [hlo]; decide)] at hst1
          have h2 := hst1 oi hoi (fun i => match pre.find? (fun p => p.1 == i) with | some p => a.tmps.getD p.2 undef | none => undef) w hb hS (fun q hq hdep => by
          simp only [find_nodup pre q hq hnd1]
          refine hphi q hq ?_
          obtain ⟨e, he, h1⟩ := Array.any_eq_true'.1 hdep
          simp only [Bool.and_eq_true, beq_iff_eq] at h1
          rw [← h1.2]; exact hdeps e he h1.1) K
          rw [← hfr] at h2
          exact h2 hK
        · intro hlo
          rw [if_pos hlo] at hst1
          have h2 := hst1 oi hoi (fun i => match pre.find? (fun p => p.1 == i) with | some p => a.tmps.getD p.2 undef | none => undef) w hb hS (fun q hq hdep => by
          simp only [find_nodup pre q hq hnd1]
          refine hphi q hq ?_
          obtain ⟨e, he, h1⟩ := Array.any_eq_true'.1 hdep
          simp only [Bool.and_eq_true, beq_iff_eq] at h1
          rw [← h1.2]; exact hdeps e he h1.1)
          rw [← hfr] at h2
          exact h2
      by_cases hstrong : ∃ p ∈ pre, lo.contains p.1 = false ∧ listed.getD p.1 true = false
      · refine ⟨fun h => (by rw [h] at hrd; cases hrd), fun i hi => ?_⟩
        have hmem := mem_ready.1 hi
        obtain ⟨hun, oi, hoi, hdeps⟩ := hmem
        have hilt : i < listed.size := by rw [hsz]; exact (Array.getElem?_eq_some_iff.1 hoi).1
        -- i is one of them
        have hip : ∃ p ∈ pre, p.1 = i := by
          refine Classical.byContradiction fun hno => ?_
          have hno' : ∀ p ∈ pre, p.1 ≠ i := fun p hp e => hno ⟨p, hp, e⟩
          have hw := List.all_eq_true.1 hwait i (List.mem_range.2 (by rw [← hsz]; exact hilt))
          have hli : l.getD i true = false := by
            have := hout i hno'
            simp only [Array.getD_eq_getD_getElem?] at hun ⊢
            rw [← this]; exact hun
          have hnc : (pre.map (·.1)).contains i = false := by
            simp only [List.contains_eq_mem, decide_eq_false_iff_not, List.mem_map, not_exists, not_and]
            exact fun p hp e => hno' p hp e
          rw [hli, hnc] at hw
          simp only [Bool.false_or] at hw
          obtain ⟨p0, hp0, hs0, hu0⟩ := hstrong
          have hw0 := List.all_eq_true.1 hw p0 hp0
          rw [hs0, Bool.false_or] at hw0
          exact Region.reach_not_ready hclosed hw0 hu0 hi
        obtain ⟨p, hp, rfl⟩ := hip
        obtain ⟨oi, hoi, hcont, h1, h2, hog, hod⟩ := each p hp hi
        by_cases hlo : lo.contains p.1 = true
        · obtain ⟨v, hy, hv⟩ := h2 hlo
          exact (hy.yieldsIf (S := fun _ => True)).wpOp hoi trivial ⟨fun _ h => h, hcont v w hv (Below.refl _ _)⟩
        · have hlo : lo.contains p.1 = false := by simpa using hlo
          refine wpOp_step hoi fun K' hK => ?_
          rw [if_pos (by unfold Region.wanted; rw [hog])]
          refine h1 hlo K' ?_
          intro v w' hv hbw
          exact hK _ _ ⟨fun _ _ => hSst w w' hS hbw, hcont v w' hv hbw⟩
      · obtain ⟨oi, hoi, hcont, h1, h2, hog, hod⟩ := each pr hpr hrd
        have hun := (mem_ready.1 hrd).1
        have hlo : lo.contains pr.1 = true := by
          cases hc : lo.contains pr.1 with
          | true => rfl
          | false => exact absurd ⟨pr, hpr, hc, hun⟩ hstrong
        obtain ⟨v, hy, hv⟩ := h2 hlo
        refine wpAnyLast_any hoi (Region.noSelect_spec hsel) (fun c a w h => hQ c a w pr.2 v (hod ▸ h)) (fuel + m) listed a w ?_ hrd hy (hcont v w hv (Below.refl _ _))
        have hf1 := Region.free_spec hoi (List.all_eq_true.1 hfree pr.1 (by simpa using hlo))
        intro j oj hoj hji hju hno
        refine hf1 j oj hoj hji ?_ hno
        have hjl : j < l.size := by rw [hls]; exact (Array.getElem?_eq_some_iff.1 hoj).1
        have hjs : j < listed.size := by rw [hsz, ← hls]; exact hjl
        have hs1 := (setAll_at l (pre.filter fun p => !lo.contains p.1) j).1 (fun p hp e => by
          obtain ⟨h4, h5⟩ := List.mem_filter.1 hp
          exact hstrong ⟨p, h4, by simpa using h5, by rw [e]; exact hju⟩)
        have h3 := hsub j
        simp only [Array.getD_eq_getD_getElem?, hs1, Array.getElem?_eq_getElem hjl, Array.getElem?_eq_getElem hjs, Option.getD_some] at hju h3 ⊢
        cases hb2 : l[j] with
        | false => rfl
        | true => rw [h3 hb2] at hju; cases hju
  have hl0 : left_ l pre = pre.length := left_all l pre (fun p hp => (hall' p hp).1)
  rw [← hl0]
  exact main (left_ l pre) l a0 w0 rfl hls (fun _ _ => rfl) (fun _ h => h) (Region.closedB_spec hcl) rfl rfl (fun _ _ => rfl) (fun p hp hf => by
    have h1 := (hall' p hp).1
    obtain ⟨_, ⟨o, ho, _⟩, _⟩ := hall' p hp
    have hlt : p.1 < l.size := by rw [hls]; exact (Array.getElem?_eq_some_iff.1 ho).1
    simp only [Array.getD_eq_getD_getElem?, Array.getElem?_eq_getElem hlt, Option.getD_some] at h1 hf
    rw [h1] at hf; cases hf) (Below.refl _ _) hS0
theorem FreeSteps2.nil {pre : List (Nat × Nat)} {Φ : Nat → Value → World → Prop} {a0 : Act} {w0 : World} {lo : List Nat} : ∀ p ∈ ([] : List (Nat × Nat)), Step2 P md ops Q S pre Φ a0 w0 lo p.1 := fun p hp => by cases hp
theorem FreeSteps2.cons {pre : List (Nat × Nat)} {Φ : Nat → Value → World → Prop} {a0 : Act} {w0 : World} {lo : List Nat} {i d : Nat} {r : List (Nat × Nat)} {o : Oper} (ho : ops[i]? = some o) (hlo : lo.contains i = false) (hdst : o.dst = some d)
    (h : ∀ (us : Nat → Value) (w : World), Below w0.heap.size w0 w → S w → (∀ p ∈ pre, (o.after.any fun e => Region.binds md e && e.on == p.1) = true → Φ p.1 (us p.1) w) → ∀ K : Act → World → Prop, Shut (∀ v w', Φ i v w' → Below w.heap.size w w' → K ((frameOf a0 us pre).put (some d) v) w') → Oper.wp P o (frameOf a0 us pre) w K Q)
    (k : ∀ p ∈ r, Step2 P md ops Q S pre Φ a0 w0 lo p.1) : ∀ p ∈ ((i, d) :: r), Step2 P md ops Q S pre Φ a0 w0 lo p.1 := fun p hp => by
  rcases List.mem_cons.1 hp with rfl | hp
  · unfold Step2
    rw [if_neg (by rw [hlo]; decide)]
    intro o' ho' us w hb hS hd K hK
    obtain rfl : o = o' := Option.some.inj (ho.symm.trans ho')
    exact h us w hb hS hd K (hdst ▸ hK)
  · exact k p hp
theorem FreeSteps2.loose {pre : List (Nat × Nat)} {Φ : Nat → Value → World → Prop} {a0 : Act} {w0 : World} {lo : List Nat} {i d : Nat} {r : List (Nat × Nat)} {o : Oper} (ho : ops[i]? = some o) (hlo : lo.contains i = true)
    (h : ∀ (us : Nat → Value) (w : World), Below w0.heap.size w0 w → S w → (∀ p ∈ pre, (o.after.any fun e => Region.binds md e && e.on == p.1) = true → Φ p.1 (us p.1) w) → ∃ v, Yields P ops o v (frameOf a0 us pre) ∧ Φ i v w)
    (k : ∀ p ∈ r, Step2 P md ops Q S pre Φ a0 w0 lo p.1) : ∀ p ∈ ((i, d) :: r), Step2 P md ops Q S pre Φ a0 w0 lo p.1 := fun p hp => by
  rcases List.mem_cons.1 hp with rfl | hp
  · unfold Step2
    rw [if_pos hlo]
    intro o' ho' us w hb hS hd
    obtain rfl : o = o' := Option.some.inj (ho.symm.trans ho')
    exact h us w hb hS hd
  · exact k p hp
end
end Go.Proofs.Ytcabnnfhcolcfaa
