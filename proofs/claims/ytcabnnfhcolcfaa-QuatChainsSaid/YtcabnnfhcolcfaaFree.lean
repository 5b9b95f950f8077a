/- A region whose calls may come in any order, each walked once: what each leaves stays known, since nothing old is turned. -/
import Derived.Test.YtcabnnfhcolcfaaLast
import Derived.Test.YtcabnnfhcolcfaaMem
namespace Go.Proofs.Ytcabnnfhcolcfaa
set_option linter.unusedSimpArgs false
set_option linter.unusedVariables false
open Go.RowKit
section
variable {P : Program} {ops : Array Oper} {Q : Exit → Act → World → Prop} {md : Region.Mode} {S : World → Prop} {ds : List Nat}
/-- The act with the destinations of some operations filled. -/
def frameOf (a0 : Act) (us : Nat → Value) : List (Nat × Nat) → Act
  | [] => a0
  | p :: r => (frameOf a0 us r).put (some p.2) (us p.1)
def setAll (l : Array Bool) : List (Nat × Nat) → Array Bool
  | [] => l
  | p :: r => (setAll l r).setIfInBounds p.1 true
def topoB (md : Region.Mode) (ops : Array Oper) : Array Bool → List (Nat × Nat) → Bool
  | _, [] => true
  | l, p :: r => (match ops[p.1]? with
    | some o => o.after.all fun e => !Region.binds md e || l.getD e.on false
    | none => false) && topoB md ops (l.setIfInBounds p.1 true) r
def nodupB : List Nat → Bool
  | [] => true
  | x :: r => !r.contains x && nodupB r
/-- All that the law asks of the region, by the kernel. -/
def freeB (md : Region.Mode) (ops : Array Oper) (l : Array Bool) (pre : List (Nat × Nat)) (n : Nat) (l' : Array Bool) : Bool :=
  Region.closedB md ops l && (l.size == ops.size) && nodupB (pre.map (·.1)) && nodupB (pre.map (·.2)) &&
  pre.all (fun p => !(l.getD p.1 true) && (match ops[p.1]? with
    | some o => o.dst == some p.2 && o.guard.isNone
    | none => false) && decide (p.2 < n)) &&
  (List.range ops.size).all (fun j => l.getD j true || (pre.map (·.1)).contains j || pre.all (fun p => Region.reachB md ops p.1 6 j)) &&
  topoB md ops l pre && (setAll l pre == l')
theorem nodupB_cons {x : Nat} {r : List Nat} (h : nodupB (x :: r) = true) : x ∉ r ∧ nodupB r = true := by
  simp only [nodupB, Bool.and_eq_true, Bool.not_eq_true', List.contains_eq_mem, decide_eq_false_iff_not] at h
  exact h
theorem frameOf_size (a0 : Act) (us : Nat → Value) (pre : List (Nat × Nat)) : (frameOf a0 us pre).tmps.size = a0.tmps.size := by
  induction pre with
  | nil => rfl
  | cons p r ih => simp [frameOf, Act.put, ih]
theorem frameOf_defers (a0 : Act) (us : Nat → Value) (pre : List (Nat × Nat)) : (frameOf a0 us pre).defers = a0.defers := by
  induction pre with
  | nil => rfl
  | cons p r ih => simp [frameOf, Act.put, ih]
theorem frameOf_at (a0 : Act) (us : Nat → Value) : ∀ (pre : List (Nat × Nat)) (t : Nat), nodupB (pre.map (·.2)) = true → ((∀ p ∈ pre, p.2 ≠ t) → (frameOf a0 us pre).tmps[t]? = a0.tmps[t]?) ∧ (∀ p ∈ pre, p.2 = t → t < a0.tmps.size → (frameOf a0 us pre).tmps[t]? = some (us p.1))
  | [], t, _ => ⟨fun _ => rfl, fun p hp => by cases hp⟩
  | q :: r, t, hn => by
    obtain ⟨h1, h2⟩ := nodupB_cons hn
    simp only at h1
    obtain ⟨ih1, ih2⟩ := frameOf_at a0 us r t h2
    refine ⟨fun h => ?_, fun p hp he hlt => ?_⟩
    · simp only [frameOf, Act.put]
      rw [Array.getElem?_setIfInBounds_ne (h q (by simp))]
      exact ih1 (fun p hp => h p (by simp [hp]))
    · simp only [frameOf, Act.put]
      rcases List.mem_cons.1 hp with rfl | hp
      · subst he
        rw [Array.getElem?_setIfInBounds_self_of_lt (by rw [frameOf_size]; exact hlt)]
      · have : q.2 ≠ t := fun e => h1 (by rw [e, ← he]; exact List.mem_map_of_mem (f := (·.2)) hp)
        rw [Array.getElem?_setIfInBounds_ne this]
        exact ih2 p hp he hlt
theorem setAll_size (l : Array Bool) (pre : List (Nat × Nat)) : (setAll l pre).size = l.size := by
  induction pre with
  | nil => rfl
  | cons p r ih => simp [setAll, ih]
theorem setAll_at (l : Array Bool) : ∀ (pre : List (Nat × Nat)) (k : Nat), ((∀ p ∈ pre, p.1 ≠ k) → (setAll l pre)[k]? = l[k]?) ∧ (∀ p ∈ pre, p.1 = k → k < l.size → (setAll l pre)[k]? = some true)
  | [], k => ⟨fun _ => rfl, fun p hp => by cases hp⟩
  | q :: r, k => by
    obtain ⟨ih1, ih2⟩ := setAll_at l r k
    refine ⟨fun h => ?_, fun p hp he hlt => ?_⟩
    · simp only [setAll]
      rw [Array.getElem?_setIfInBounds_ne (h q (by simp))]
      exact ih1 (fun p hp => h p (by simp [hp]))
    · simp only [setAll]
      by_cases e : q.1 = k
      · rw [e, Array.getElem?_setIfInBounds_self_of_lt (by rw [setAll_size]; exact hlt)]
      · rw [Array.getElem?_setIfInBounds_ne e]
        rcases List.mem_cons.1 hp with rfl | hp
        · exact absurd he e
        · exact ih2 p hp he hlt
theorem topo_ready : ∀ (pre : List (Nat × Nat)) (l listed : Array Bool), topoB md ops l pre = true → listed.size = ops.size → (∀ k, l.getD k false = true → listed.getD k false = true) → (∃ p ∈ pre, listed.getD p.1 true = false) → ∃ p ∈ pre, p.1 ∈ Region.ready md ops listed
  | [], l, listed, _, _, _, h => by obtain ⟨p, hp, _⟩ := h; cases hp
  | q :: r, l, listed, ht, hs, hl, h => by
    simp only [topoB, Bool.and_eq_true] at ht
    obtain ⟨h1, h2⟩ := ht
    cases ho : ops[q.1]? with
    | none => rw [ho] at h1; simp at h1
    | some o =>
      rw [ho] at h1
      have hlt : q.1 < listed.size := by rw [hs]; exact (Array.getElem?_eq_some_iff.1 ho).1
      by_cases hq : listed.getD q.1 true = false
      · refine ⟨q, by simp, mem_ready.2 ⟨hq, o, ho, fun e he hb => ?_⟩⟩
        have h3 := Array.all_eq_true_iff_forall_mem.1 h1 e he
        rw [hb] at h3
        exact hl _ (by simpa using h3)
      · have hq2 : listed.getD q.1 false = true := by
          have : listed.getD q.1 true = true := by simpa using hq
          simp only [Array.getD_eq_getD_getElem?, Array.getElem?_eq_getElem hlt, Option.getD_some] at this ⊢
          exact this
        obtain ⟨p, hp, hr⟩ := topo_ready r (l.setIfInBounds q.1 true) listed h2 hs (fun k hk => by
          by_cases e : q.1 = k
          · rw [← e]; exact hq2
          · rw [getD_set_ne false e] at hk; exact hl k hk) (by
          obtain ⟨p, hp, hu⟩ := h
          rcases List.mem_cons.1 hp with rfl | hp
          · exact absurd hu hq
          · exact ⟨p, hp, hu⟩)
        exact ⟨p, by simp [hp], hr⟩
def left_ (listed : Array Bool) : List (Nat × Nat) → Nat
  | [] => 0
  | p :: r => (if listed.getD p.1 true = false then 1 else 0) + left_ listed r
theorem left_same (listed : Array Bool) (i : Nat) : ∀ (pre : List (Nat × Nat)), i ∉ pre.map (·.1) → left_ (listed.setIfInBounds i true) pre = left_ listed pre
  | [], _ => rfl
  | q :: r, h => by
    simp only [List.map_cons, List.mem_cons, not_or] at h
    simp only [left_]
    rw [left_same listed i r h.2, getD_set_ne true h.1]
theorem left_set (listed : Array Bool) (i : Nat) (hi : i < listed.size) : ∀ (pre : List (Nat × Nat)), nodupB (pre.map (·.1)) = true → i ∈ pre.map (·.1) → listed.getD i true = false → left_ listed pre = left_ (listed.setIfInBounds i true) pre + 1
  | [], _, h, _ => by cases h
  | q :: r, hn, h, hu => by
    obtain ⟨h1, h2⟩ := nodupB_cons hn
    simp only at h1
    simp only [left_]
    by_cases e : q.1 = i
    · have hr : i ∉ r.map (·.1) := by rw [← e]; exact h1
      rw [left_same listed i r hr, e, hu]
      have : (listed.setIfInBounds i true).getD i true = true := by simp [Array.getD_eq_getD_getElem?, hi]
      rw [this]; simp; omega
    · have hr : i ∈ r.map (·.1) := by
        simp only [List.map_cons, List.mem_cons] at h
        rcases h with h | h
        · exact absurd h.symm e
        · exact h
      rw [left_set listed i hi r h2 hr hu, getD_set_ne true (Ne.symm e)]; omega
theorem left_zero (listed : Array Bool) : ∀ (pre : List (Nat × Nat)), left_ listed pre = 0 → ∀ p ∈ pre, listed.getD p.1 true = true
  | [], _, p, hp => by cases hp
  | q :: r, h, p, hp => by
    simp only [left_] at h
    rcases List.mem_cons.1 hp with rfl | hp
    · by_cases e : listed.getD p.1 true = false
      · rw [if_pos e] at h; omega
      · simpa using e
    · exact left_zero listed r (by omega) p hp
theorem left_pos (listed : Array Bool) : ∀ (pre : List (Nat × Nat)), 0 < left_ listed pre → ∃ p ∈ pre, listed.getD p.1 true = false
  | [], h => by simp [left_] at h
  | q :: r, h => by
    by_cases e : listed.getD q.1 true = false
    · exact ⟨q, by simp, e⟩
    · simp only [left_] at h
      rw [if_neg e] at h
      obtain ⟨p, hp, hu⟩ := left_pos listed r (by omega)
      exact ⟨p, by simp [hp], hu⟩
theorem find_nodup : ∀ (pre : List (Nat × Nat)) (p : Nat × Nat), p ∈ pre → nodupB (pre.map (·.1)) = true → pre.find? (fun q => q.1 == p.1) = some p
  | [], p, hp, _ => by cases hp
  | q :: r, p, hp, hn => by
    obtain ⟨h1, h2⟩ := nodupB_cons hn
    simp only at h1
    rcases List.mem_cons.1 hp with rfl | hp
    · simp
    · have : ¬ q.1 = p.1 := fun e => h1 (by rw [e]; exact List.mem_map_of_mem (f := (·.1)) hp)
      rw [List.find?_cons_of_neg (by simpa using this)]
      exact find_nodup r p hp h2
theorem snd_nodup : ∀ (pre : List (Nat × Nat)) (p q : Nat × Nat), p ∈ pre → q ∈ pre → nodupB (pre.map (·.2)) = true → p.2 = q.2 → p = q
  | [], p, q, hp, _, _, _ => by cases hp
  | x :: r, p, q, hp, hq, hn, e => by
    obtain ⟨h1, h2⟩ := nodupB_cons hn
    simp only at h1
    rcases List.mem_cons.1 hp with e1 | hp' <;> rcases List.mem_cons.1 hq with e2 | hq'
    · rw [e1, e2]
    · exact absurd (show x.2 ∈ r.map (·.2) from e1 ▸ e ▸ List.mem_map_of_mem (f := (·.2)) hq') h1
    · exact absurd (show x.2 ∈ r.map (·.2) from e2 ▸ e ▸ List.mem_map_of_mem (f := (·.2)) hp') h1
    · exact snd_nodup r p q hp' hq' h2 e
theorem left_all (listed : Array Bool) : ∀ (pre : List (Nat × Nat)), (∀ p ∈ pre, listed.getD p.1 true = false) → left_ listed pre = pre.length
  | [], _ => rfl
  | q :: r, h => by
    simp only [left_]
    rw [if_pos (h q (by simp)), left_all listed r (fun p hp => h p (by simp [hp])), List.length_cons]; omega
/-- What one call leaves: a value of which Φ holds; nothing old is turned. -/
def FreeStep (P : Program) (md : Region.Mode) (ops : Array Oper) (Q : Exit → Act → World → Prop) (S : World → Prop) (pre : List (Nat × Nat)) (Φ : Nat → Value → World → Prop) (a0 : Act) (w0 : World) (i : Nat) : Prop :=
  ∀ (o : Oper), ops[i]? = some o → ∀ (us : Nat → Value) (w : World), Below w0.heap.size w0 w → S w → (∀ p ∈ pre, (o.after.any fun e => Region.binds md e && e.on == p.1) = true → Φ p.1 (us p.1) w) →
    ∀ K : Act → World → Prop, Shut (∀ v w', Φ i v w' → Below w.heap.size w w' → K ((frameOf a0 us pre).put o.dst v) w') → Oper.wp P o (frameOf a0 us pre) w K Q
theorem free_ {fuel n : Nat} {l : Array Bool} {a0 : Act} {w0 : World} (pre : List (Nat × Nat)) (Φ : Nat → Value → World → Prop) (l' : Array Bool) (hn : a0.tmps.size = n) (hB : freeB md ops l pre n l' = true)
    (hst : ∀ i v w w', Φ i v w → Below w.heap.size w w' → Φ i v w') (hSst : ∀ w w', S w → Below w.heap.size w w' → S w') (hS0 : S w0)
    (hstep : ∀ p ∈ pre, FreeStep P md ops Q S pre Φ a0 w0 p.1)
    (hend : ∀ (us : Nat → Value) (w : World), Below w0.heap.size w0 w → S w → (∀ p ∈ pre, Φ p.1 (us p.1) w) → wpAnyLast P md ops Q S ds fuel l' (frameOf a0 us pre) w) :
    wpAnyLast P md ops Q S ds (fuel + pre.length) l a0 w0 := by
  simp only [freeB, Bool.and_eq_true, beq_iff_eq] at hB
  obtain ⟨⟨⟨⟨⟨⟨⟨hcl, hls⟩, hnd1⟩, hnd2⟩, hall⟩, hwait⟩, htopo⟩, hset⟩ := hB
  subst hset
  have hall' : ∀ p ∈ pre, l.getD p.1 true = false ∧ (∃ o, ops[p.1]? = some o ∧ o.dst = some p.2 ∧ o.guard = none) ∧ p.2 < a0.tmps.size := fun p hp => by
    have h := List.all_eq_true.1 hall p hp
    simp only [Bool.and_eq_true, Bool.not_eq_true', decide_eq_true_eq] at h
    obtain ⟨⟨h1, h2⟩, h3⟩ := h
    cases ho : ops[p.1]? with
    | none => rw [ho] at h2; simp at h2
    | some o =>
      rw [ho] at h2
      simp only [Bool.and_eq_true, beq_iff_eq, Option.isNone_iff_eq_none] at h2
      exact ⟨h1, ⟨o, rfl, h2.1, h2.2⟩, by rw [hn]; exact h3⟩
  -- the walk over all orders
  have main : ∀ (m : Nat) (listed : Array Bool) (a : Act) (w : World), left_ listed pre = m → listed.size = ops.size → (∀ k, (∀ p ∈ pre, p.1 ≠ k) → listed[k]? = l[k]?) → (∀ k, l.getD k false = true → listed.getD k false = true) → ListedClosed md ops listed →
      a.defers = a0.defers → a.tmps.size = a0.tmps.size → (∀ t, (∀ p ∈ pre, p.2 ≠ t) → a.tmps[t]? = a0.tmps[t]?) → (∀ p ∈ pre, listed.getD p.1 false = true → Φ p.1 (a.tmps.getD p.2 undef) w) →
      Below w0.heap.size w0 w → S w → wpAnyLast P md ops Q S ds (fuel + m) listed a w := by
    intro m
    induction m with
    | zero =>
      intro listed a w hm hsz hout hsub hclosed hdef htsz hagree hphi hb hS
      have hz := left_zero listed pre hm
      have e1 : listed = setAll l pre := by
        refine Array.ext_getElem? fun k => ?_
        obtain ⟨s1, s2⟩ := setAll_at l pre k
        by_cases hk : ∃ p ∈ pre, p.1 = k
        · obtain ⟨p, hp, hpk⟩ := hk
          have hlt : k < listed.size := by
            obtain ⟨_, ⟨o, ho, _⟩, _⟩ := hall' p hp
            rw [hsz, ← hpk]; exact (Array.getElem?_eq_some_iff.1 ho).1
          rw [s2 p hp hpk (by rw [hls, ← hsz]; exact hlt)]
          have := hz p hp
          rw [hpk] at this
          rw [Array.getElem?_eq_getElem hlt]
          simp only [Array.getD_eq_getD_getElem?, Array.getElem?_eq_getElem hlt, Option.getD_some] at this
          rw [this]
        · have hk' : ∀ p ∈ pre, p.1 ≠ k := fun p hp e => hk ⟨p, hp, e⟩
          rw [s1 hk', hout k hk']
      have hfr : a = frameOf a0 (fun i => match pre.find? (fun p => p.1 == i) with | some p => a.tmps.getD p.2 undef | none => undef) pre := by
        have hus : ∀ p ∈ pre, (match pre.find? (fun q => q.1 == p.1) with | some q => a.tmps.getD q.2 undef | none => undef) = a.tmps.getD p.2 undef := fun p hp => by
          rw [find_nodup pre p hp hnd1]
        cases a with
        | mk tm df =>
          have h1 := frameOf_defers a0 (fun i => match pre.find? (fun p => p.1 == i) with | some p => (⟨tm, df⟩ : Act).tmps.getD p.2 undef | none => undef) pre
          have h2 := frameOf_size a0 (fun i => match pre.find? (fun p => p.1 == i) with | some p => (⟨tm, df⟩ : Act).tmps.getD p.2 undef | none => undef) pre
          generalize hF : frameOf a0 (fun i => match pre.find? (fun p => p.1 == i) with | some p => (⟨tm, df⟩ : Act).tmps.getD p.2 undef | none => undef) pre = F at *
          cases F with
          | mk ft fd =>
            simp only at h1 h2 hdef htsz
            have e2 : tm = ft := by
              refine Array.ext_getElem? fun t => ?_
              obtain ⟨f1, f2⟩ := frameOf_at a0 (fun i => match pre.find? (fun p => p.1 == i) with | some p => (⟨tm, df⟩ : Act).tmps.getD p.2 undef | none => undef) pre t hnd2
              rw [hF] at f1 f2
              simp only at f1 f2
              by_cases ht : ∃ p ∈ pre, p.2 = t
              · obtain ⟨p, hp, hpt⟩ := ht
                have hlt : t < a0.tmps.size := hpt ▸ (hall' p hp).2.2
                rw [f2 p hp hpt hlt, hus p hp, hpt]
                simp [Array.getD_eq_getD_getElem?, Array.getElem?_eq_getElem (show t < tm.size by omega)]
              · have ht' : ∀ p ∈ pre, p.2 ≠ t := fun p hp e => ht ⟨p, hp, e⟩
                rw [f1 ht']; exact hagree t ht'
            rw [e2, hdef, h1]
      rw [e1, hfr]
      refine hend _ w hb hS fun p hp => ?_
      simp only [find_nodup pre p hp hnd1]
      refine hphi p hp ?_
      have h1 := hz p hp
      obtain ⟨_, ⟨o, ho, _⟩, _⟩ := hall' p hp
      have hlt : p.1 < listed.size := by rw [hsz]; exact (Array.getElem?_eq_some_iff.1 ho).1
      simp only [Array.getD_eq_getD_getElem?, Array.getElem?_eq_getElem hlt, Option.getD_some] at h1 ⊢
      exact h1
    | succ m ih =>
      intro listed a w hm hsz hout hsub hclosed hdef htsz hagree hphi hb hS
      have hsome := left_pos listed pre (by omega)
      obtain ⟨pr, hpr, hrd⟩ := topo_ready pre l listed htopo hsz hsub hsome
      refine ⟨fun h => (by rw [h] at hrd; cases hrd), fun i hi => ?_⟩
      have hmem := mem_ready.1 hi
      obtain ⟨hun, oi, hoi, hdeps⟩ := hmem
      have hilt : i < listed.size := by rw [hsz]; exact (Array.getElem?_eq_some_iff.1 hoi).1
      -- i is one of them
      have hip : ∃ p ∈ pre, p.1 = i := by
        refine Classical.byContradiction fun hno => ?_
        have hno' : ∀ p ∈ pre, p.1 ≠ i := fun p hp e => hno ⟨p, hp, e⟩
        have hw := List.all_eq_true.1 hwait i (List.mem_range.2 (by rw [← hsz]; exact hilt))
        have hli : l.getD i true = false := by
          have := hout i hno'
          simp only [Array.getD_eq_getD_getElem?] at hun ⊢
          rw [← this]; exact hun
        have hnc : (pre.map (·.1)).contains i = false := by
          simp only [List.contains_eq_mem, decide_eq_false_iff_not, List.mem_map, not_exists, not_and]
          exact fun p hp e => hno' p hp e
        rw [hli, hnc] at hw
        simp only [Bool.false_or] at hw
        obtain ⟨p0, hp0, hu0⟩ := hsome
        exact Region.reach_not_ready hclosed (List.all_eq_true.1 hw p0 hp0) hu0 hi
      obtain ⟨p, hp, rfl⟩ := hip
      obtain ⟨_, ⟨o, ho, hod, hog⟩, hplt⟩ := hall' p hp
      obtain rfl : oi = o := Option.some.inj (hoi.symm.trans ho)
      have hus : ∀ q ∈ pre, (match pre.find? (fun r => r.1 == q.1) with | some r => a.tmps.getD r.2 undef | none => undef) = a.tmps.getD q.2 undef := fun q hq => by
        rw [find_nodup pre q hq hnd1]
      have hfr : a = frameOf a0 (fun i => match pre.find? (fun p => p.1 == i) with | some p => a.tmps.getD p.2 undef | none => undef) pre := by
        cases a with
        | mk tm df =>
          have h1 := frameOf_defers a0 (fun i => match pre.find? (fun p => p.1 == i) with | some p => (⟨tm, df⟩ : Act).tmps.getD p.2 undef | none => undef) pre
          have h2 := frameOf_size a0 (fun i => match pre.find? (fun p => p.1 == i) with | some p => (⟨tm, df⟩ : Act).tmps.getD p.2 undef | none => undef) pre
          generalize hF : frameOf a0 (fun i => match pre.find? (fun p => p.1 == i) with | some p => (⟨tm, df⟩ : Act).tmps.getD p.2 undef | none => undef) pre = F at *
          cases F with
          | mk ft fd =>
            simp only at h1 h2 hdef htsz
            have e2 : tm = ft := by
              refine Array.ext_getElem? fun t => ?_
              obtain ⟨f1, f2⟩ := frameOf_at a0 (fun i => match pre.find? (fun p => p.1 == i) with | some p => (⟨tm, df⟩ : Act).tmps.getD p.2 undef | none => undef) pre t hnd2
              rw [hF] at f1 f2
              simp only at f1 f2
              by_cases ht : ∃ p ∈ pre, p.2 = t
              · obtain ⟨q, hq, hqt⟩ := ht
                have hlt : t < a0.tmps.size := hqt ▸ (hall' q hq).2.2
                rw [f2 q hq hqt hlt, hus q hq, hqt]
                simp [Array.getD_eq_getD_getElem?, Array.getElem?_eq_getElem (show t < tm.size by omega)]
              · have ht' : ∀ p ∈ pre, p.2 ≠ t := fun p hp e => ht ⟨p, hp, e⟩
                rw [f1 ht']; exact hagree t ht'
            rw [e2, hdef, h1]
      have hst1 := hstep p hp oi hoi (fun i => match pre.find? (fun p => p.1 == i) with | some p => a.tmps.getD p.2 undef | none => undef) w hb hS (fun q hq hdep => by
        simp only [find_nodup pre q hq hnd1]
        refine hphi q hq ?_
        obtain ⟨e, he, h1⟩ := Array.any_eq_true'.1 hdep
        simp only [Bool.and_eq_true, beq_iff_eq] at h1
        rw [← h1.2]; exact hdeps e he h1.1)
      rw [← hfr] at hst1
      refine wpOp_step hoi fun K' hK => ?_
      rw [if_pos (by unfold Region.wanted; rw [hog])]
      refine hst1 K' ?_
      intro v w' hv hbw
      have hcs := hclosed.set hi
      refine hK _ _ ⟨fun _ _ => hSst w w' hS hbw, ih (listed.setIfInBounds p.1 true) (a.put oi.dst v) w' ?_ (by simpa using hsz) ?_ ?_ hcs ?_ ?_ ?_ ?_ ?_ (hSst w w' hS hbw)⟩
      · have := left_set listed p.1 hilt pre hnd1 (List.mem_map_of_mem hp) hun
        omega
      · intro k hk
        rw [Array.getElem?_setIfInBounds_ne (hk p hp)]; exact hout k hk
      · intro k hk; exact getD_set_true (hsub k hk)
      · rw [hod]; exact hdef
      · rw [hod]; simpa [Act.put] using htsz
      · intro t ht
        rw [hod]
        simp only [Act.put]
        rw [Array.getElem?_setIfInBounds_ne (ht p hp)]; exact hagree t ht
      · intro q hq hql
        rw [hod]
        simp only [Act.put]
        by_cases e : q.1 = p.1
        · have e2 : q = p := by
            have h1 := find_nodup pre q hq hnd1
            have h2 := find_nodup pre p hp hnd1
            rw [e] at h1
            exact Option.some.inj (h1.symm.trans h2)
          subst e2
          rw [Array.getD_eq_getD_getElem?, Array.getElem?_setIfInBounds_self_of_lt (by omega)]
          exact hv
        · have hne : q.2 ≠ p.2 := fun e2 => e (by rw [snd_nodup pre q p hq hp hnd2 e2])
          rw [Array.getD_eq_getD_getElem?, Array.getElem?_setIfInBounds_ne (Ne.symm hne), ← Array.getD_eq_getD_getElem?]
          rw [getD_set_ne false (Ne.symm e)] at hql
          exact hst _ _ _ _ (hphi q hq hql) hbw
      · exact below_after hbw hb hb.size
  have hl0 : left_ l pre = pre.length := left_all l pre (fun p hp => (hall' p hp).1)
  rw [← hl0]
  exact main (left_ l pre) l a0 w0 rfl hls (fun _ _ => rfl) (fun _ h => h) (Region.closedB_spec hcl) rfl rfl (fun _ _ => rfl) (fun p hp hf => by
    have h1 := (hall' p hp).1
    obtain ⟨_, ⟨o, ho, _⟩, _⟩ := hall' p hp
    have hlt : p.1 < l.size := by rw [hls]; exact (Array.getElem?_eq_some_iff.1 ho).1
    simp only [Array.getD_eq_getD_getElem?, Array.getElem?_eq_getElem hlt, Option.getD_some] at h1 hf
    rw [h1] at hf; cases hf) (Below.refl _ _) hS0
theorem FreeSteps.nil {pre : List (Nat × Nat)} {Φ : Nat → Value → World → Prop} {a0 : Act} {w0 : World} : ∀ p ∈ ([] : List (Nat × Nat)), FreeStep P md ops Q S pre Φ a0 w0 p.1 := fun p hp => by cases hp
theorem FreeSteps.cons {pre : List (Nat × Nat)} {Φ : Nat → Value → World → Prop} {a0 : Act} {w0 : World} {i d : Nat} {r : List (Nat × Nat)} {o : Oper} (ho : ops[i]? = some o)
    (h : ∀ (us : Nat → Value) (w : World), Below w0.heap.size w0 w → S w → (∀ p ∈ pre, (o.after.any fun e => Region.binds md e && e.on == p.1) = true → Φ p.1 (us p.1) w) → ∀ K : Act → World → Prop, Shut (∀ v w', Φ i v w' → Below w.heap.size w w' → K ((frameOf a0 us pre).put o.dst v) w') → Oper.wp P o (frameOf a0 us pre) w K Q)
    (k : ∀ p ∈ r, FreeStep P md ops Q S pre Φ a0 w0 p.1) : ∀ p ∈ ((i, d) :: r), FreeStep P md ops Q S pre Φ a0 w0 p.1 := fun p hp => by
  rcases List.mem_cons.1 hp with rfl | hp
  · intro o' ho' us w hb hS hd K hK
    obtain rfl : o = o' := Option.some.inj (ho.symm.trans ho')
    exact h us w hb hS hd K hK
  · exact k p hp
end
end Go.Proofs.Ytcabnnfhcolcfaa
