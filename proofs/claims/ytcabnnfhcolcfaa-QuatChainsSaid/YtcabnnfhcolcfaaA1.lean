/- An append to a row of whole numbers of the call's own: words elsewhere read as before. -/
import Derived.Test.YtcabnnfhcolcfaaV1
import Derived.Laws.AppendOwn
namespace Go.Proofs.Ytcabnnfhcolcfaa
set_option linter.unusedSimpArgs false
set_option linter.unusedVariables false
open Go.RowKit

/-- No word. -/
def NU (v : Value) : Prop := ∀ x, v ≠ .int .u64 x
/-- A row's block holds no word. -/
def NUrow (w : World) (v : Value) : Prop := ∀ g, v.ownBlock = some g → ∀ cur e fr, w.heap[g]? = some (.cells cur e fr) → ∀ u ∈ cur.toList, NU u
/-- Words read as before. -/
def Keeps (w w' : World) : Prop := ∀ a x, w.cell? a = some (.int .u64 x) → w'.cell? a = some (.int .u64 x)
theorem NatAt.keeps {w w' : World} {v : Value} {m : Int} (h : NatAt w v m) (k : Keeps w w') : NatAt w' v m := by
  obtain ⟨A, n, c, xs, e, hc, hr, hn, hv⟩ := h
  refine ⟨A, n, c, xs, e, hc, ⟨hr.1, fun h0 => ?_⟩, hn, hv⟩
  obtain ⟨ad, e, hcell⟩ := hr.2 h0
  exact ⟨ad, e, fun j hj => k _ _ (hcell j hj)⟩
theorem IntAt.keeps {w w' : World} {v : Value} {m : Int} (h : IntAt w v m) (k : Keeps w w') : IntAt w' v m := by
  obtain ⟨mag, e, hm⟩ := h
  exact ⟨mag, e, hm.keeps k⟩
theorem keeps_of {w w' : World} {row : Option Nat} (hg : w.grownBy w' row) (h : ∀ g, row = some g → ∀ cur e fr, w.heap[g]? = some (.cells cur e fr) → ∀ u ∈ cur.toList, NU u) : Keeps w w' := by
  intro a x hc
  have hlt := World.block_lt_of_cell? w a hc
  by_cases he : row = some a.block
  · exfalso
    unfold World.cell? at hc
    cases hb : w.heap[a.block]? with
    | none => rw [hb] at hc; cases hc
    | some ob =>
      rw [hb] at hc
      cases ob with
      | cells c e fr =>
        simp only at hc
        split at hc
        · cases hc
        · exact h a.block he c e fr hb _ (by rw [← Array.getElem?_toList] at hc; exact List.mem_of_getElem? hc) x rfl
      | _ => cases hc
  · rw [World.cell?_of_block (hg.block _ hlt (fun e => he (by first | exact e.symm | exact e)))]
    exact hc
theorem append_z {P : Program} (w : World) (base : Nat) (t ty e : TypeId) (i : TypeInfo) (z : Value) (bytes : Nat) (ht : P.underlying t = some (.slice e)) (hi : P.info? e = some i) (hz : i.zero = some z)
    (hsize : i.size = 2) (hby : i.bytes = bytes) (hzs : z.cells.size = 2) (hzn : ∀ u ∈ z.cells.toList, NU u)
    (v : Value) (n : Nat) (xs : List Value) (hown : w.ownsRow base e 2 v n xs) (hnu : NUrow w v)
    (a : Addr) (m c : Nat) (news : List Value) (hl : news.length = m * 2) (hm0 : 0 < m) (hnews : ∀ j u, news[j]? = some u → w.cell? (a.add j) = some u) (h1 : ∀ u ∈ news, u.oneCell' = true) (hnn : ∀ u ∈ news, NU u)
    (h63 : n + m ≤ maxLen) (hbytes : (n + m) * bytes ≤ 140737488355328) (hbase : base ≤ w.heap.size) :
    ∃ v' w', (Builtin.append_ #[t, t] ty #[v, .slice (some a) m c]).run P w = .ok v' w' ∧ w'.ownsRow base e 2 v' (n + m) (xs ++ news) ∧ NUrow w' v' ∧ w.grownBy w' v.ownBlock ∧ Keeps w w' := by
  obtain ⟨v', w', hr, ho, hg, _⟩ := run_append_own (P := P) w base t ty e i z 2 bytes ht hi hz hsize hby hzs (by omega) v n xs hown a m c news hl hnews h1 h63 hbytes hbase
  refine ⟨v', w', hr, ho, ?_, hg, keeps_of hg hnu⟩
  have hsmall : n + m ≤ 9223372036854775807 := by simp only [maxLen] at h63; omega
  have zc : ∀ k, ∀ u ∈ (Builtin.zeroCells z.cells k).toList, NU u := by
    intro k u hu
    simp only [Builtin.zeroCells, Array.toList_map, List.mem_map] at hu
    obtain ⟨j, hj, rfl⟩ := hu
    refine hzn _ ?_
    have hlt : j % z.cells.size < z.cells.size := Nat.mod_lt _ (by omega)
    rw [getElem!_pos z.cells (j % z.cells.size) hlt, ← Array.getElem_toList]
    exact List.getElem_mem _
  have hin : ∀ {v'' : Value} {w'' : World}, (Builtin.append_ #[t, t] ty #[v, .slice (some a) m c]).run P w = .ok v'' w'' → v' = v'' ∧ w' = w'' := fun h => by
    rw [hr] at h; injection h with h1 h2; exact ⟨h1, h2⟩
  rcases hown.2 with ⟨rfl, rfl⟩ | ⟨g, cap, cur, rfl, hbg, hgg, hnc, hcm, hcs, htake⟩
  · have hx : xs = [] := List.eq_nil_of_length_eq_zero (by simpa using hown.1)
    subst hx
    have hr2 := run_append_nil (P := P) w t ty e i z ht hi hz a m c news (by rw [hsize]; exact hl) hnews hm0 (by omega) (by rw [hby]; have hb := hbytes; simp only [Nat.zero_add] at hb; omega)
    obtain ⟨rfl, rfl⟩ := hin hr2
    intro g hgb cur e' fr hcur u hu
    simp only [Value.ownBlock, Option.some.injEq] at hgb
    subst hgb
    rw [show w.heap.size = w.drew.heap.size from rfl, heap_alloc_new] at hcur
    simp only [Option.some.injEq, Obj.cells.injEq] at hcur
    rw [← hcur.1] at hu
    simp only [Array.toList_append, List.mem_append] at hu
    rcases hu with hu | hu
    · exact hnn u (by simpa using hu)
    · exact zc _ u hu
  · have hcurNU := hnu g rfl cur e (0, 0) hgg
    by_cases hroom : n + m ≤ cap
    · have hr2 := run_append_room (P := P) w t ty e i ht hi g n cap cur hgg a m c news (by rw [hsize]; exact hl) hnews h1 hroom (by rw [hl, hcs, hsize, ← Nat.add_mul]; exact Nat.mul_le_mul_right _ hroom)
      obtain ⟨rfl, rfl⟩ := hin hr2
      intro g' hgb cur' e' fr hcur u hu
      simp only [Value.ownBlock, Option.some.injEq] at hgb
      subst hgb
      rw [setRow_heap w g cur _ e _ hgg] at hcur
      simp only [Option.some.injEq, Obj.cells.injEq] at hcur
      rw [← hcur.1] at hu
      simp only [List.mem_append] at hu
      rcases hu with (hu | hu) | hu
      · exact hcurNU u (List.mem_of_mem_take hu)
      · exact hnn u hu
      · exact hcurNU u (List.mem_of_mem_drop hu)
    · have holds : ∀ j u, xs[j]? = some u → w.cell? ((⟨g, 0, none⟩ : Addr).add j) = some u := hown.cells (g := g) rfl
      have hr2 := run_append_grow (P := P) w t ty e i z ht hi hz ⟨g, 0, none⟩ n cap xs (by rw [hsize]; exact hown.1) holds a m c news (by rw [hsize]; exact hl) hnews (by omega) (by omega) (by rw [hby]; exact growslice_fits (by omega) hbytes)
      obtain ⟨rfl, rfl⟩ := hin hr2
      intro g' hgb cur' e' fr hcur u hu
      simp only [Value.ownBlock, Option.some.injEq] at hgb
      subst hgb
      rw [show w.heap.size = w.drew.heap.size from rfl, heap_alloc_new] at hcur
      simp only [Option.some.injEq, Obj.cells.injEq] at hcur
      rw [← hcur.1] at hu
      simp only [Array.toList_append, List.mem_append] at hu
      rcases hu with (hu | hu) | hu
      · exact hcurNU u (by rw [← htake] at hu; exact List.mem_of_mem_take (by simpa using hu))
      · exact hnn u (by simpa using hu)
      · exact zc _ u hu
theorem wpList_append_z {P : Program} {w : World} {ops : Array Oper} {rest : List Oper} {o : Oper} {a : Act} {Q : Exit → Act → World → Prop} (hgd : o.guard = none) (s x : Operand) (t : TypeId)
    (ho : o.op = .call { callee := .builtin .append, args := #[s, x], argTypes := #[t, t] })
    (base : Nat) (e : TypeId) (i : TypeInfo) (z : Value) (bytes : Nat) (ht : P.underlying t = some (.slice e)) (hi : P.info? e = some i) (hz : i.zero = some z)
    (hsize : i.size = 2) (hby : i.bytes = bytes) (hzs : z.cells.size = 2) (hzn : ∀ u ∈ z.cells.toList, NU u)
    (v : Value) (n : Nat) (xs : List Value) (hs : a.eval s = v) (hown : w.ownsRow base e 2 v n xs) (hnu : NUrow w v)
    (ad : Addr) (m c : Nat) (news : List Value) (hx : a.eval x = .slice (some ad) m c) (hl : news.length = m * 2) (hm0 : 0 < m) (hnews : ∀ j u, news[j]? = some u → w.cell? (ad.add j) = some u) (h1 : ∀ u ∈ news, u.oneCell' = true) (hnn : ∀ u ∈ news, NU u)
    (h63 : n + m ≤ maxLen) (hbytes : (n + m) * bytes ≤ 140737488355328) (hbase : base ≤ w.heap.size)
    (h : ∀ v' w', w'.ownsRow base e 2 v' (n + m) (xs ++ news) → NUrow w' v' → w.grownBy w' v.ownBlock → Keeps w w' → wpList P ops Q rest (a.put o.dst v') w') : wpList P ops Q (o :: rest) a w :=
  wpList_plain hgd fun _ hK => by
    obtain ⟨v', w', hr, h2, h3, h4, h5⟩ := append_z (P := P) w base t o.type e i z bytes ht hi hz hsize hby hzs hzn v n xs hown hnu ad m c news hl hm0 hnews h1 hnn h63 hbytes hbase
    unfold Oper.wp execOp
    simp only [ho, resolve, invoke, builtin, Sem.run_bind, Sem.run_pure, Result.andThen_ok, List.map_toArray, List.map_cons, List.map_nil, hs, hx, hr]
    exact hK _ _ (h v' w' h2 h3 h4 h5)
theorem infoZ : (Try.prog.info? 81).map (fun i => (i.zero, i.size, i.bytes)) = some (some (.agg #[.bool false, .slice none 0 0]), 2, 32) := by kernel_rfl
end Go.Proofs.Ytcabnnfhcolcfaa
