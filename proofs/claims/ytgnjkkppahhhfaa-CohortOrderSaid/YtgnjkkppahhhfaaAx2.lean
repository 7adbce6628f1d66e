/- Part 2 of Ax. -/
import Derived.Test.YtgnjkkppahhhfaaAx1
set_option linter.unusedVariables false
set_option linter.unusedSimpArgs false
set_option linter.unnecessarySimpa false
/- Regions whose order is open: one order stands for all. -/
namespace Go.Ax
variable {P : Program}

theorem over_rel {B : Nat} {μ μ' : Mu} {w w' : World} {H H' : Nat → Option AObj} {T T' : AS} {m m' : Nat} (up : Nat → Bool)
    (rH : Rel B μ ⟨H, m⟩ w) (rT : Rel B μ' T' w') (f : Fr T T' μ μ' w w') (hT : ∀ id o, T.h id = some o → H id = some o)
    (hH : ∀ id, H' id = if up id then T'.h id else H id) (hk : ∀ id o, up id = false → T.h id = some o → o.ro = false → T'.h id = some o) : Rel B μ' ⟨H', m'⟩ w' := by
  have hin : ∀ id, (up id = true ∨ ∃ o, T.h id = some o ∧ o.ro = false) → H' id = T'.h id := by
    intro id h
    rw [hH id]
    by_cases hu : up id = true
    · rw [if_pos hu]
    · rw [if_neg hu]
      rcases h with h | ⟨o, ho, hro⟩
      · exact absurd h hu
      · rw [hT id o ho, hk id o (by simpa using hu) ho hro]
  have hout : ∀ id, ¬ (up id = true ∨ ∃ o, T.h id = some o ∧ o.ro = false) → H' id = H id ∧ ∀ o, T.h id = some o → o.ro = false → False := by
    intro id h
    rw [hH id, if_neg (fun hu => h (.inl hu))]
    exact ⟨rfl, fun o ho hro => h (.inr ⟨o, ho, hro⟩)⟩
  constructor
  · intro id o ho
    by_cases h : up id = true ∨ ∃ o, T.h id = some o ∧ o.ro = false
    · rw [show (AS.mk H' m').h id = H' id from rfl, hin id h] at ho
      exact rT.obj id o ho
    · obtain ⟨h1, h2⟩ := hout id h
      rw [show (AS.mk H' m').h id = H' id from rfl, h1] at ho
      obtain ⟨b, d, z, g1, g2, g3⟩ := rH.obj id o ho
      refine ⟨b, d, z, f.sub _ _ g1, (g2.mono f.sub).same (f.blk b (rH.mu id _ g1) ?_), g3⟩
      intro k ok q hk1 hk2 hk3 hk4
      have := rH.inj k id ok o q _ (hT k ok hk1) ho hk2 hk3 g1 hk4
      subst this
      exact h2 ok hk1 hk2
  · intro i j o o' p q hi hj hro hp hq hpq
    have hi' : H' i = some o := hi
    have hj' : H' j = some o' := hj
    by_cases h1 : up i = true ∨ ∃ o, T.h i = some o ∧ o.ro = false <;> by_cases h2 : up j = true ∨ ∃ o, T.h j = some o ∧ o.ro = false
    · rw [hin i h1] at hi'; rw [hin j h2] at hj'
      exact rT.inj i j o o' p q hi' hj' hro hp hq hpq
    · rw [hin i h1] at hi'
      obtain ⟨e1, e2⟩ := hout j h2
      rw [e1] at hj'
      obtain ⟨b, d, z, g1, _, _⟩ := rH.obj j o' hj'
      have := f.sub _ _ g1
      rw [this] at hq; cases hq
      have hlt := rH.mu j _ g1
      obtain ⟨k, ok, e, k1, k2, k3, k4⟩ := f.own i o p hi' hro hp (by rw [hpq]; exact hlt)
      have := rH.inj k j ok o' e _ (hT k ok k1) hj' k2 k3 g1 (by rw [k4, hpq])
      subst this
      exact (e2 ok k1 k2).elim
    · obtain ⟨e1, e2⟩ := hout i h1
      rw [e1] at hi'
      rw [hin j h2] at hj'
      obtain ⟨b, d, z, g1, _, _⟩ := rH.obj i o hi'
      have := f.sub _ _ g1
      rw [this] at hp; cases hp
      have hlt := rH.mu i _ g1
      cases hro' : o'.ro with
      | false =>
        obtain ⟨k, ok, e, k1, k2, k3, k4⟩ := f.own j o' q hj' hro' hq (by rw [← hpq]; exact hlt)
        have := rH.inj k i ok o e _ (hT k ok k1) hi' k2 k3 g1 (by rw [k4, ← hpq])
        subst this
        exact (e2 ok k1 k2).elim
      | true =>
        have k1 := f.ro j o' hj' hro'
        have k2 := hT j o' k1
        obtain ⟨b', d', z', g1', _, _⟩ := rH.obj j o' k2
        have := f.sub _ _ g1'
        rw [this] at hq; cases hq
        exact rH.inj i j o o' _ _ hi' k2 hro g1 g1' hpq
    · obtain ⟨e1, e2⟩ := hout i h1
      obtain ⟨f1, f2⟩ := hout j h2
      rw [e1] at hi'; rw [f1] at hj'
      obtain ⟨b, d, z, g1, _, _⟩ := rH.obj i o hi'
      obtain ⟨b', d', z', g1', _, _⟩ := rH.obj j o' hj'
      have := f.sub _ _ g1
      rw [this] at hp; cases hp
      have := f.sub _ _ g1'
      rw [this] at hq; cases hq
      exact rH.inj i j o o' _ _ hi' hj' hro g1 g1' hpq
  · exact rT.mu
  · exact rT.size

theorem over_fr {B : Nat} {S0 : AS} {μ0 μ μ' : Mu} {w0 w w' : World} {H H' : Nat → Option AObj} {T T' : AS} {m m' : Nat} (up : Nat → Bool)
    (rH : Rel B μ ⟨H, m⟩ w) (F : Fr S0 ⟨H, m⟩ μ0 μ w0 w) (f : Fr T T' μ μ' w w') (hT : ∀ id o, T.h id = some o → H id = some o)
    (hH : ∀ id, H' id = if up id then T'.h id else H id) (hm : m ≤ m') (hn : ∀ id, T.nx ≤ id → id < T'.nx → S0.nx ≤ id ∧ id < m') : Fr S0 ⟨H', m'⟩ μ0 μ' w0 w' where
  os := f.os.trans F.os
  tape := f.tape.trans F.tape
  output := f.output.trans F.output
  size := Nat.le_trans F.size f.size
  sub := F.sub.trans f.sub
  nx := Nat.le_trans F.nx hm
  fresh := fun i p h1 h2 => by
    cases h : μ i with
    | some x => have := F.fresh i x h1 h; exact ⟨this.1, Nat.lt_of_lt_of_le this.2 hm⟩
    | none => have := f.fresh i p h h2; exact hn i this.1 this.2
  ro := fun i o h1 h2 => by
    have h1' : H' i = some o := h1
    rw [hH i] at h1'
    split at h1'
    · exact F.ro i o (hT i o (f.ro i o h1' h2)) h2
    · exact F.ro i o h1' h2
  blk := fun b hb hn => by
    rw [f.blk b (Nat.lt_of_lt_of_le hb F.size) (fun k ok q h1 h2 h3 h4 => by
      obtain ⟨j, o', e, g1, g2, g3, g4⟩ := F.own k ok q (hT k ok h1) h2 h3 (by omega)
      exact hn j o' e g1 g2 g3 (by omega)), F.blk b hb hn]
  own := fun i o p h1 h2 h3 hb => by
    have h1' : H' i = some o := h1
    rw [hH i] at h1'
    split at h1'
    · obtain ⟨k, ok, e, k1, k2, k3, k4⟩ := f.own i o p h1' h2 h3 (Nat.lt_of_lt_of_le hb F.size)
      obtain ⟨j, o', e', g1, g2, g3, g4⟩ := F.own k ok e (hT k ok k1) k2 k3 (by omega)
      exact ⟨j, o', e', g1, g2, g3, by omega⟩
    · obtain ⟨b, d, z, g1, _, _⟩ := rH.obj i o h1'
      have := f.sub _ _ g1
      rw [this] at h3; cases h3
      exact F.own i o _ h1' h2 g1 hb

/-- Which objects a change hits. -/
def Delta.hits (c : Delta) (S : AS) (id : Nat) : Bool :=
  (match c.upd with | some (b, _) => id == b | none => false) || (c.new.isSome && id == S.nx)

theorem Delta.app_h (c : Delta) (S : AS) (id : Nat) : (c.app S).h id = if c.new.isSome && id == S.nx then c.new else match c.upd with | some (b, o) => if id = b then o else S.h id | none => S.h id := by
  obtain ⟨u, n⟩ := c
  cases n with
  | none =>
    cases u with
    | none => simp [Delta.app]
    | some p => obtain ⟨b, o⟩ := p; simp [Delta.app, AS.set]
  | some n =>
    cases u with
    | none =>
      simp only [Delta.app, AS.new, Option.isSome_some, Bool.true_and, beq_iff_eq]
    | some p =>
      obtain ⟨b, o⟩ := p
      simp only [Delta.app, AS.new, AS.set, Option.isSome_some, Bool.true_and, beq_iff_eq]
      rfl

theorem Delta.app_nx (c : Delta) (S : AS) : (c.app S).nx = S.nx + if c.new.isSome then 1 else 0 := by
  obtain ⟨u, n⟩ := c
  cases n <;> cases u <;> simp [Delta.app, AS.new, AS.set]

theorem Delta.keep {c : Delta} {S : AS} {id : Nat} (h : c.hits S id = false) : (c.app S).h id = S.h id := by
  rw [Delta.app_h]
  simp only [Delta.hits, Bool.or_eq_false_iff] at h
  rw [if_neg (by rw [h.2]; simp)]
  cases hu : c.upd with
  | none => rfl
  | some p => obtain ⟨b, o⟩ := p; rw [hu] at h; simp at h; simp [h.1]

theorem Delta.alike {c : Delta} {S T : AS} (hn : T.nx = S.nx ∨ c.new = none) (id : Nat) : c.hits T id = c.hits S id ∧ (c.hits S id = true → (c.app T).h id = (c.app S).h id) := by
  have e : (c.new.isSome && id == T.nx) = (c.new.isSome && id == S.nx) := by
    rcases hn with hn | hn
    · rw [hn]
    · rw [hn]; rfl
  refine ⟨by unfold Delta.hits; rw [e], fun h => ?_⟩
  rw [Delta.app_h, Delta.app_h, e]
  split
  · rfl
  · rename_i hne
    unfold Delta.hits at h
    cases hu : c.upd with
    | none => rw [hu] at h; simp at h; simp only [Bool.and_eq_true, beq_iff_eq] at hne; exact absurd h hne
    | some p =>
      obtain ⟨b, o⟩ := p
      rw [hu] at h
      simp only [Bool.or_eq_true, beq_iff_eq] at h
      rcases h with h | h
      · simp [h]
      · exact absurd h hne

theorem Delta.hit_ids {c : Delta} {ids : List Nat} {S : AS} (hok : c.Ok ids S) {id : Nat} (h : c.hits S id = true) : (id ∈ ids ∧ S.roAt id = false ∧ c.upd ≠ none ∧ ∃ o, S.h id = some o) ∨ (id = S.nx ∧ S.nx < (c.app S).nx) := by
  unfold Delta.hits at h
  simp only [Bool.or_eq_true, Bool.and_eq_true, beq_iff_eq] at h
  rcases h with h | h
  · cases hu : c.upd with
    | none => rw [hu] at h; cases h
    | some p =>
      obtain ⟨b, o⟩ := p
      rw [hu] at h
      simp only [beq_iff_eq] at h
      subst h
      obtain ⟨h1, ⟨y, h2, h3⟩, _⟩ := hok.upd id o hu
      exact .inl ⟨h1, by simp [AS.roAt, h2, h3], by simp, y, h2⟩
  · refine .inr ⟨h.2, ?_⟩
    rw [Delta.app_nx, h.1]; simp

theorem Delta.roAt_app {c : Delta} {ids : List Nat} {S : AS} (hok : c.Ok ids S) {id : Nat} (h : (c.app S).roAt id = true) : S.roAt id = true := by
  by_cases hh : c.hits S id = true
  · exfalso
    unfold AS.roAt at h
    rw [Delta.app_h] at h
    split at h
    · rename_i heq
      split at heq
      · exact absurd (hok.new _ heq) (by simp [h])
      · rename_i hne
        cases hu : c.upd with
        | none => unfold Delta.hits at hh; rw [hu] at hh; simp at hh; simp only [Bool.and_eq_true, beq_iff_eq] at hne; exact hne hh
        | some p =>
          obtain ⟨b, o⟩ := p
          rw [hu] at heq
          simp only at heq
          split at heq
          · exact absurd ((hok.upd b o hu).2.2 _ heq) (by simp [h])
          · rename_i hid
            unfold Delta.hits at hh
            rw [hu] at hh
            simp only [Bool.or_eq_true, beq_iff_eq] at hh
            rcases hh with hh | hh
            · exact hid hh
            · exact hne hh
    · cases h
  · rw [AS.roAt, Delta.keep (by simpa using hh)] at h
    exact h

/-- One item of the order that stands for all. -/
inductive Ev1 (L : Nat → Bool) (it : DItem) (U' : List DRec) (ρ ρ' : Env) (S S' : AS) (v : Value) (up : Nat → Bool) (rc : DRec) : Prop
  | skip (hw : wantA ρ it.ao.guard = some false) (hv : v = undef) (hS : S' = S) (hu : ∀ id, up id = false) (hr : rc = DRec.none) (hρ : ρ' = putE ρ it.ao.dst v)
  | op (c : Delta) (hw : wantA ρ it.ao.guard = some true) (hc : it.ao.op.isCall = false) (hs : step it.ao.op ρ S = some (v, S')) (hS : S' = c.app S) (hok : c.Ok (idsE ρ it.ao.op.mems) S)
      (hwr : it.ao.op.isWrite = false → c.upd = none) (hloc : ∀ T : AS, (∀ i ∈ idsE ρ it.ao.op.mems, T.h i = S.h i) → (T.nx = S.nx ∨ c.new = none) → step it.ao.op ρ T = some (v, c.app T))
      (hu : ∀ id, up id = c.hits S id) (hr : rc = ⟨it.ao.op.isWrite, idsE ρ it.ao.op.mems, S.nx, S'.nx⟩) (hp : U'.all (okPair (idsE ρ it.ao.op.mems) it.ao.op.isWrite) = true) (hρ : ρ' = putE ρ it.ao.dst v)
  | call (hL : L it.i = true) (hc : it.ao.op.isCall = true) (hw : wantA ρ it.ao.guard = some true) (hu : ∀ id, up id = (!(hidden S U').contains id && !S.roAt id)) (hS : ∀ id, up id = false → S'.h id = S.h id) (hnx : S.nx ≤ S'.nx)
      (hr : rc = DRec.none) (hro : ∀ id, S'.roAt id = true → S.roAt id = true) (hρ : ρ' = putE ρ it.ao.dst v)

theorem Ev1.env {L : Nat → Bool} {it : DItem} {U' : List DRec} {ρ ρ' : Env} {S S' : AS} {v : Value} {up : Nat → Bool} {rc : DRec} (h : Ev1 L it U' ρ ρ' S S' v up rc) : ρ' = putE ρ it.ao.dst v := by cases h <;> assumption

theorem Ev1.nx {L : Nat → Bool} {it : DItem} {U' : List DRec} {ρ ρ' : Env} {S S' : AS} {v : Value} {up : Nat → Bool} {rc : DRec} (h : Ev1 L it U' ρ ρ' S S' v up rc) : S.nx ≤ S'.nx := by
  cases h with
  | skip _ _ hS => rw [hS]; exact Nat.le_refl _
  | op c _ _ _ hS => rw [hS, Delta.app_nx]; omega
  | call _ _ _ _ _ hnx => exact hnx

theorem Ev1.keep {L : Nat → Bool} {it : DItem} {U' : List DRec} {ρ ρ' : Env} {S S' : AS} {v : Value} {up : Nat → Bool} {rc : DRec} (h : Ev1 L it U' ρ ρ' S S' v up rc) {id : Nat} (hid : up id = false) : S'.h id = S.h id := by
  cases h with
  | skip _ _ hS => rw [hS]
  | op c _ _ _ hS _ _ _ hu => rw [hS]; exact Delta.keep (by rw [← hu]; exact hid)
  | call _ _ _ _ hS => exact hS id hid

theorem Ev1.ro {L : Nat → Bool} {it : DItem} {U' : List DRec} {ρ ρ' : Env} {S S' : AS} {v : Value} {up : Nat → Bool} {rc : DRec} (h : Ev1 L it U' ρ ρ' S S' v up rc) {id : Nat} (hid : S'.roAt id = true) : S.roAt id = true := by
  cases h with
  | skip _ _ hS => rw [hS] at hid; exact hid
  | op c _ _ _ hS hok => rw [hS] at hid; exact Delta.roAt_app hok hid
  | call _ _ _ _ _ _ _ hro => exact hro id hid

theorem Ev1.listed {L L' : Nat → Bool} {it : DItem} {U' : List DRec} {ρ ρ' : Env} {S S' : AS} {v : Value} {up : Nat → Bool} {rc : DRec} (h : Ev1 L it U' ρ ρ' S S' v up rc) (hl : ∀ i, L i = true → L' i = true) : Ev1 L' it U' ρ ρ' S S' v up rc := by
  cases h with
  | skip hw hv hS hu hr hρ => exact .skip hw hv hS hu hr hρ
  | op c hw hc hs hS hok hwr hloc hu hr hp hρ => exact .op c hw hc hs hS hok hwr hloc hu hr hp hρ
  | call hL hc hw hu hS hnx hr hro hρ => exact .call (hl _ hL) hc hw hu hS hnx hr hro hρ

/-- The heap behind some items of the order. -/
def ov (l : Nat → Bool) (S : Nat → AS) (up : Nat → Nat → Bool) : Nat → Nat → Option AObj
  | 0, id => (S 0).h id
  | p + 1, id => if l p && up p id then (S (p + 1)).h id else ov l S up p id

theorem ov_vis {l : Nat → Bool} {S : Nat → AS} {up : Nat → Nat → Bool} {f j id : Nat} (hj : j ≤ f) (hkeep : ∀ p, p < j → up p id = false → (S (p + 1)).h id = (S p).h id)
    (h1 : ∀ p, p < j → l p = false → up p id = false) (h2 : ∀ p, j ≤ p → p < f → l p = true → up p id = false) : ov l S up f id = (S j).h id := by
  have a : ∀ p, p ≤ j → ov l S up p id = (S p).h id := by
    intro p
    induction p with
    | zero => intro _; rfl
    | succ p ih =>
      intro hp
      simp only [ov]
      by_cases hl : l p = true
      · by_cases hu : up p id = true
        · rw [if_pos (by simp [hl, hu])]
        · rw [if_neg (by simp [hu]), ih (by omega), hkeep p (by omega) (by simpa using hu)]
      · have hl' : l p = false := by simpa using hl
        rw [if_neg (by simp [hl']), ih (by omega), hkeep p (by omega) (h1 p (by omega) hl')]
  have b : ∀ d, j + d ≤ f → ov l S up (j + d) id = (S j).h id := by
    intro d
    induction d with
    | zero => intro _; exact a j (Nat.le_refl _)
    | succ d ih =>
      intro hd
      have : j + (d + 1) = (j + d) + 1 := by omega
      rw [this]
      simp only [ov]
      rw [if_neg, ih (by omega)]
      intro hh
      simp only [Bool.and_eq_true] at hh
      have := h2 (j + d) (by omega) (by omega) hh.1
      rw [this] at hh
      simp at hh
  have := b (f - j) (by omega)
  rwa [show j + (f - j) = f by omega] at this

theorem ov_exec {l l' : Nat → Bool} {S : Nat → AS} {up : Nat → Nat → Bool} {f j : Nat} (hj : j < f) (hl : ∀ p, p ≠ j → l' p = l p) (hlj : l' j = true) {id : Nat}
    (h : up j id = true → ∀ p, j < p → p < f → l p = true → up p id = false) : ov l' S up f id = if up j id then (S (j + 1)).h id else ov l S up f id := by
  have a : ∀ p, p ≤ j → ov l' S up p id = ov l S up p id := by
    intro p
    induction p with
    | zero => intro _; rfl
    | succ p ih => intro hp; simp only [ov]; rw [hl p (by omega), ih (by omega)]
  have b : ∀ d, j + 1 + d ≤ f → ov l' S up (j + 1 + d) id = if up j id then (S (j + 1)).h id else ov l S up (j + 1 + d) id := by
    intro d
    induction d with
    | zero =>
      intro _
      by_cases hu : up j id = true
      · simp [ov, hlj, hu]
      · have hu' : up j id = false := by simpa using hu
        simp [ov, hu', a j (Nat.le_refl _)]
    | succ d ih =>
      intro hd
      have e : j + 1 + (d + 1) = (j + 1 + d) + 1 := by omega
      rw [e]
      simp only [ov]
      rw [hl (j + 1 + d) (by omega), ih (by omega)]
      by_cases hu : up j id = true
      · by_cases hlp : l (j + 1 + d) = true
        · have := h hu (j + 1 + d) (by omega) (by omega) hlp
          simp [hu, this]
        · simp [hu, hlp]
      · simp [hu]
  have := b (f - (j + 1)) (by omega)
  rwa [show j + 1 + (f - (j + 1)) = f by omega] at this

end Go.Ax

/- Regions whose order is open: whatever order comes, it ends as the one order does. -/
namespace Go.Ax
variable {P : Program}

def lis (items : List DItem) (L : Nat → Bool) (p : Nat) : Bool := match items[p]? with | some it => L it.i | none => false

def upd {α : Type} (g : Nat → α) (k : Nat) (x : α) : Nat → α := fun p => if p = k then x else g p

theorem upd_self {α : Type} (g : Nat → α) (k : Nat) (x : α) : upd g k x k = x := by simp [upd]
theorem upd_ne {α : Type} (g : Nat → α) {k p : Nat} (x : α) (h : p ≠ k) : upd g k x p = g p := by simp [upd, h]

structure Tr where
  ρ : Nat → Env
  S : Nat → AS
  v : Nat → Value
  up : Nat → Nat → Bool
  hs : Nat → DRec

/-- The records of the first items. -/
def Tr.hist (tr : Tr) (p : Nat) : List DRec := (List.range p).map tr.hs

theorem Tr.mem_recs (tr : Tr) {j p : Nat} {U : List Nat} (h : j < p) (hU : j ∈ U) : tr.hs j ∈ recs (tr.hist p) U := by
  unfold recs
  refine List.mem_map.2 ⟨j, hU, ?_⟩
  simp [Tr.hist, List.getD, h]

structure Good (items : List DItem) (L : Nat → Bool) (tr : Tr) (f : Nat) (ρ0 : Env) (S0 : AS) : Prop where
  z1 : tr.ρ 0 = ρ0
  z2 : tr.S 0 = S0
  len : f ≤ items.length
  ev : ∀ p it, p < f → items[p]? = some it → Ev1 L it (recs (tr.hist p) it.U) (tr.ρ p) (tr.ρ (p + 1)) (tr.S p) (tr.S (p + 1)) (tr.v p) (tr.up p) (tr.hs p)
  lt : ∀ p it, items[p]? = some it → L it.i = true → p < f
  dom : ∀ p, p ≤ f → ∀ id o, (tr.S p).h id = some o → id < (tr.S p).nx

theorem Good.item {items : List DItem} {L : Nat → Bool} {tr : Tr} {f : Nat} {ρ0 : Env} {S0 : AS} (g : Good items L tr f ρ0 S0) {p : Nat} (h : p < f) : ∃ it, items[p]? = some it :=
  ⟨items[p]'(Nat.lt_of_lt_of_le h g.len), by simp [Nat.lt_of_lt_of_le h g.len]⟩

theorem Good.nx {items : List DItem} {L : Nat → Bool} {tr : Tr} {f : Nat} {ρ0 : Env} {S0 : AS} (g : Good items L tr f ρ0 S0) {p : Nat} : ∀ {q : Nat}, p ≤ q → q ≤ f → (tr.S p).nx ≤ (tr.S q).nx
  | q, h1, h2 => by
    obtain ⟨d, rfl⟩ := Nat.exists_eq_add_of_le h1
    clear h1
    induction d with
    | zero => exact Nat.le_refl _
    | succ d ih =>
      obtain ⟨it, hit⟩ := g.item (p := p + d) (by omega)
      exact Nat.le_trans (ih (by omega)) (g.ev (p + d) it (by omega) hit).nx

theorem Good.ro {items : List DItem} {L : Nat → Bool} {tr : Tr} {f : Nat} {ρ0 : Env} {S0 : AS} (g : Good items L tr f ρ0 S0) {id p : Nat} : ∀ {q : Nat}, p ≤ q → q ≤ f → (tr.S q).roAt id = true → (tr.S p).roAt id = true
  | q, h1, h2 => by
    obtain ⟨d, rfl⟩ := Nat.exists_eq_add_of_le h1
    clear h1
    induction d with
    | zero => exact fun h => h
    | succ d ih =>
      obtain ⟨it, hit⟩ := g.item (p := p + d) (by omega)
      exact fun h => ih (by omega) ((g.ev (p + d) it (by omega) hit).ro h)

theorem norel_delta {ao : AOp} {ρ : Env} {S S' : AS} {v : Value} {c : Delta} (h : step ao ρ S = some (v, S')) (hr : ao.rel = false) (hS : S' = c.app S) (hok : c.Ok (idsE ρ ao.mems) S) (id : Nat) : c.hits S id = false := by
  have e := norel_same h hr
  simp only [AOp.rel, Bool.or_eq_false_iff, Bool.not_eq_false', List.isEmpty_iff] at hr
  obtain ⟨⟨h1, h2⟩, h3⟩ := hr
  have hu : c.upd = none := by
    cases hc : c.upd with
    | none => rfl
    | some p =>
      obtain ⟨b, o'⟩ := p
      have := (hok.upd b o' hc).1
      rw [h1] at this; simp [idsE] at this
  have hn : c.new = none := by
    cases hc : c.new with
    | none => rfl
    | some o =>
      have : S'.nx = S.nx + 1 := by rw [hS, Delta.app_nx, hc]; rfl
      rw [e] at this; omega
  simp [Delta.hits, hu, hn]

theorem Ev1.rel {L : Nat → Bool} {it : DItem} {U' : List DRec} {ρ ρ' : Env} {S S' : AS} {v : Value} {up : Nat → Bool} {rc : DRec} (h : Ev1 L it U' ρ ρ' S S' v up rc) {id : Nat} (hu : up id = true) : it.ao.op.rel = true := by
  cases h with
  | skip _ _ _ h => rw [h] at hu; cases hu
  | op c _ _ hs hS hok _ _ h =>
    cases hr : it.ao.op.rel with
    | true => rfl
    | false => rw [h, norel_delta hs hr hS hok] at hu; cases hu
  | call _ hc => simp [AOp.rel, hc]

theorem Ev1.touch {L : Nat → Bool} {it : DItem} {U' : List DRec} {ρ ρ' : Env} {S S' : AS} {v : Value} {up : Nat → Bool} {rc : DRec} (h : Ev1 L it U' ρ ρ' S S' v up rc) (hc : it.ao.op.isCall = false) {id : Nat} (hu : up id = true) :
    (id ∈ rc.ids ∧ rc.w = true ∧ S.roAt id = false ∧ ∃ o, S.h id = some o) ∨ (id = S.nx ∧ rc.lo = S.nx ∧ rc.hi = S'.nx ∧ S.nx < S'.nx) := by
  cases h with
  | skip _ _ _ h => rw [h] at hu; cases hu
  | op c _ _ hs hS hok hwr _ h hr =>
    rw [h] at hu
    subst hr
    rcases Delta.hit_ids hok hu with ⟨h1, h2, h3, h4⟩ | ⟨h1, h2⟩
    · left
      refine ⟨h1, ?_, h2, h4⟩
      cases hw : it.ao.op.isWrite with
      | true => rfl
      | false => exact absurd (hwr hw) h3
    · right; exact ⟨h1, rfl, rfl, by rw [hS]; exact h2⟩
  | call _ h => rw [hc] at h; cases h

theorem okPair_at {ids : List Nat} {w : Bool} {r : DRec} (h : okPair ids w r = true) {i : Nat} (hi : i ∈ ids) : ¬ (r.lo ≤ i ∧ i < r.hi) ∧ ((w = true ∨ r.w = true) → i ∉ r.ids) := by
  have := List.all_eq_true.1 h i hi
  simp only [Bool.and_eq_true, Bool.not_eq_true', Bool.and_eq_false_iff, decide_eq_false_iff_not, Bool.or_eq_false_iff] at this
  obtain ⟨h1, h2⟩ := this
  refine ⟨fun hh => ?_, fun hw hm => ?_⟩
  · rcases h1 with h1 | h1
    · exact h1 hh.1
    · exact h1 hh.2
  · rcases h2 with h2 | h2
    · rcases hw with hw | hw
      · rw [h2.1] at hw; cases hw
      · rw [h2.2] at hw; cases hw
    · simp at h2; exact h2 hm

theorem hidden_at {S : AS} {r : DRec} {i : Nat} : ∀ {l : List DRec}, r ∈ l → (hidden S l).contains i = false → (S.roAt i = false → i ∉ r.ids) ∧ ¬ (r.lo ≤ i ∧ i < r.hi)
  | x :: l, hr, h => by
    simp only [hidden, List.contains_eq_mem, List.mem_append, decide_eq_false_iff_not, not_or] at h
    rcases List.mem_cons.1 hr with rfl | hr
    · refine ⟨fun hro hm => h.1.1 (List.mem_filter.2 ⟨hm, by simp [hro]⟩), fun hh => h.1.2 ?_⟩
      rw [List.mem_range'_1]
      omega
    · exact hidden_at hr (by simpa using h.2)

/-- What a later item does to what an earlier one comes to. -/
theorem Ev1.later {L : Nat → Bool} {it : DItem} {U' : List DRec} {ρ ρ' : Env} {S S' : AS} {v : Value} {up : Nat → Bool} {rc : DRec} (h : Ev1 L it U' ρ ρ' S S' v up rc) {r : DRec} (hr : r ∈ U') {id : Nat} (hu : up id = true) :
    id = S.nx ∧ S.nx < S'.nx ∧ it.ao.op.isCall = false ∨ (id ∉ r.ids ∧ ¬ (r.lo ≤ id ∧ id < r.hi)) := by
  have h0 := h
  cases h with
  | skip _ _ _ h => rw [h] at hu; cases hu
  | op c _ hc hs hS hok hwr _ h hrc hp =>
    rcases h0.touch hc hu with ⟨h1, h2, h3, _⟩ | ⟨h1, h2, h3, h4⟩
    · right
      subst hrc
      obtain ⟨k1, k2⟩ := okPair_at (List.all_eq_true.1 hp r hr) h1
      exact ⟨k2 (.inl h2), k1⟩
    · exact .inl ⟨h1, h4, hc⟩
  | call _ _ _ h =>
    rw [h] at hu
    simp only [Bool.and_eq_true, Bool.not_eq_true'] at hu
    obtain ⟨k1, k2⟩ := hidden_at hr hu.1
    exact .inr ⟨k1 hu.2, k2⟩

/-- What has been listed although it comes later, and what has not although it comes earlier, stand off. -/
structure Off (items : List DItem) (L : Nat → Bool) (f j : Nat) : Prop where
  before : ∀ p x, p < j → items[p]? = some x → L x.i = false → x.ao.op.isCall = false ∧ ∀ y, items[j]? = some y → apartA x.ao y.ao = true ∧ (y.ao.op.rel = true → x.ao.op.rel = true → p ∈ y.U)
  after : ∀ p x, j < p → items[p]? = some x → L x.i = true → ∀ y, items[j]? = some y → y.ao.op.isCall = false ∧ apartA y.ao x.ao = true ∧ (x.ao.op.rel = true → y.ao.op.rel = true → j ∈ x.U)

theorem Chain.off {N : Nat} {ops : Array Oper} {items : List DItem} (h : Chain P N ops items) {L : Nat → Bool} (hL : ∀ i o, ops[i]? = some o → L i = true → ∀ d ∈ edgesOf o, L d = true) {f j : Nat} {it : DItem} (hj : items[j]? = some it)
    (hn : L it.i = false) (hr : ∀ o, ops[it.i]? = some o → ∀ d ∈ edgesOf o, L d = true) : Off items L f j where
  before := fun p x hp hx hl => by
    have hc := h.closed hL hj hr
    have hno : x.i ∉ it.cl := fun hm => by rw [hc _ hm] at hl; cases hl
    obtain ⟨k1, k2, k3⟩ := (h.at hj).un p x (by rw [List.getElem?_take_of_lt hp]; exact hx) hno
    exact ⟨k1, fun y hy => by rw [hj] at hy; cases hy; exact ⟨k2, k3⟩⟩
  after := fun p x hp hx hl y hy => by
    rw [hj] at hy; cases hy
    have hc := h.closed hL hx (fun o ho => hL _ o ho hl)
    have hno : it.i ∉ x.cl := fun hm => by rw [hc _ hm] at hn; cases hn
    exact (h.at hx).un j it (by rw [List.getElem?_take_of_lt hp]; exact hj) hno

theorem Good.later {items : List DItem} {L : Nat → Bool} {tr : Tr} {f : Nat} {ρ0 : Env} {S0 : AS} (g : Good items L tr f ρ0 S0) {j : Nat} {it : DItem} (hj : items[j]? = some it) (ho : Off items L f j) {id : Nat} (hrel : it.ao.op.rel = true)
    (hid : (id ∈ (tr.hs j).ids ∧ id < (tr.S j).nx) ∨ ((tr.hs j).lo ≤ id ∧ id < (tr.hs j).hi ∧ id < (tr.S (j + 1)).nx)) : ∀ p, j < p → p < f → lis items L p = true → tr.up p id = false := by
  intro p h1 h2 hl
  obtain ⟨x, hx⟩ := g.item h2
  unfold lis at hl
  rw [hx] at hl
  have hev := g.ev p x h2 hx
  cases hu : tr.up p id with
  | false => rfl
  | true =>
    exfalso
    have hU := (ho.after p x h1 hx hl it hj).2.2 (hev.rel hu) hrel
    rcases hev.later (tr.mem_recs h1 hU) hu with ⟨k1, k2, k3⟩ | ⟨k1, k2⟩
    · rcases hid with ⟨_, h3⟩ | ⟨_, _, h3⟩
      · have := g.nx (p := j) (q := p) (by omega) (by omega); omega
      · have := g.nx (p := j + 1) (q := p) (by omega) (by omega); omega
    · rcases hid with ⟨h3, _⟩ | ⟨h3, h4, _⟩
      · exact k1 h3
      · exact k2 ⟨h3, h4⟩

/-- What an item comes to is seen by it as the one order has it. -/
theorem Good.vis {items : List DItem} {L : Nat → Bool} {tr : Tr} {f : Nat} {ρ0 : Env} {S0 : AS} (g : Good items L tr f ρ0 S0) {j id : Nat} (hj : j ≤ f)
    (hb : ∀ p x, p < j → items[p]? = some x → L x.i = false → tr.up p id = false) (ha : ∀ p, j ≤ p → p < f → lis items L p = true → tr.up p id = false) : ov (lis items L) tr.S tr.up f id = (tr.S j).h id := by
  refine ov_vis hj (fun p hp hu => ?_) (fun p hp hl => ?_) ha
  · obtain ⟨x, hx⟩ := g.item (p := p) (by omega)
    exact (g.ev p x (by omega) hx).keep hu
  · obtain ⟨x, hx⟩ := g.item (p := p) (by omega)
    refine hb p x hp hx ?_
    unfold lis at hl
    rw [hx] at hl
    exact hl

end Go.Ax

/- Regions whose order is open: the temporaries, and one item done in its turn. -/
namespace Go.Ax
variable {P : Program}

theorem keepE_look {ρ : Env} {t : Nat} : ∀ {l : List Nat}, t ∈ l → look (keepE ρ l) t = look ρ t
  | x :: r, h => by
    simp only [keepE]
    by_cases hx : t = x
    · subst hx
      cases hl : look ρ t with
      | some v => simp [look]
      | none =>
        simp only
        by_cases hm : t ∈ r
        · rw [keepE_look hm, hl]
        · have : ∀ l : List Nat, t ∉ l → look (keepE ρ l) t = none := by
            intro l
            induction l with
            | nil => intro _; rfl
            | cons y l ih =>
              intro hn
              simp only [List.mem_cons, not_or] at hn
              simp only [keepE]
              split
              · simp only [look, if_neg hn.1]; exact ih hn.2
              · exact ih hn.2
          exact this r hm
    · have hm : t ∈ r := by rcases List.mem_cons.1 h with h | h; exact absurd h hx; exact h
      split
      · simp only [look, if_neg hx]; exact keepE_look hm
      · exact keepE_look hm

theorem keepE_mem {ρ : Env} {t : Nat} {v : Value} : ∀ {l : List Nat}, look (keepE ρ l) t = some v → t ∈ l ∧ look ρ t = some v
  | [], h => by simp [keepE, look] at h
  | x :: r, h => by
    simp only [keepE] at h
    split at h
    · rename_i u hu
      simp only [look] at h
      split at h
      · rename_i hx; subst hx; cases h; exact ⟨by simp, hu⟩
      · obtain ⟨h1, h2⟩ := keepE_mem h; exact ⟨by simp [h1], h2⟩
    · obtain ⟨h1, h2⟩ := keepE_mem h; exact ⟨by simp [h1], h2⟩

theorem put_getD {a : Act} {d : Option Nat} {u : Value} {N : Nat} (hs : N ≤ a.tmps.size) (hd : ∀ t, d = some t → t < N) (t : Nat) : (a.put d u).tmps.getD t undef = if d = some t then u else a.tmps.getD t undef := by
  cases d with
  | none => simp [Act.put]
  | some k =>
    have hk := hd k rfl
    have hlt : k < a.tmps.size := Nat.lt_of_lt_of_le hk hs
    by_cases h : k = t
    · subst h; simp [Act.put, hlt]
    · simp [Act.put, Array.getElem?_setIfInBounds_ne h, h]

theorem look_putE (ρ : Env) (d : Option Nat) (v : Value) (t : Nat) : look (putE ρ d v) t = if d = some t then some v else look ρ t := by
  cases d with
  | none => simp [putE]
  | some k =>
    simp only [putE, look]
    by_cases h : t = k
    · subst h; simp
    · simp [h, Ne.symm h]

/-- The temporaries behind some items. -/
structure Tms (items : List DItem) (L : Nat → Bool) (tr : Tr) (ρ0 : Env) (μ : Mu) (N : Nat) (a : Act) : Prop where
  size : N ≤ a.tmps.size
  t1 : ∀ p it t, items[p]? = some it → L it.i = true → it.ao.dst = some t → VRel μ (tr.v p) (a.tmps.getD t undef)
  t0 : ∀ t u, (∀ (p : Nat) (it : DItem), items[p]? = some it → L it.i = true → it.ao.dst ≠ some t) → look ρ0 t = some u → VRel μ u (a.tmps.getD t undef)

theorem Good.env {items : List DItem} {L : Nat → Bool} {tr : Tr} {f : Nat} {ρ0 : Env} {S0 : AS} (g : Good items L tr f ρ0 S0) {t : Nat} {u : Value} : ∀ {j : Nat}, j ≤ f → look (tr.ρ j) t = some u →
    (∃ p it, p < j ∧ items[p]? = some it ∧ it.ao.dst = some t ∧ u = tr.v p) ∨ ((∀ p it, p < j → items[p]? = some it → it.ao.dst ≠ some t) ∧ look ρ0 t = some u)
  | 0, _, h => by rw [g.z1] at h; exact .inr ⟨fun p it hp => by omega, h⟩
  | j + 1, hj, h => by
    obtain ⟨x, hx⟩ := g.item (p := j) (by omega)
    rw [(g.ev j x (by omega) hx).env, look_putE] at h
    split at h
    · rename_i hd; cases h; exact .inl ⟨j, x, by omega, hx, hd, rfl⟩
    · rename_i hd
      rcases g.env (by omega) h with ⟨p, it, h1, h2⟩ | ⟨h1, h2⟩
      · exact .inl ⟨p, it, by omega, h2⟩
      · refine .inr ⟨fun p it hp hit => ?_, h2⟩
        by_cases hpj : p = j
        · subst hpj; rw [hx] at hit; cases hit; exact hd
        · exact h1 p it (by omega) hit

theorem apartA_spec {x y : AOper} (h : apartA x y = true) {t : Nat} : (x.dst = some t → t ∉ y.looks) ∧ (y.dst = some t → t ∉ x.looks) := by
  simp only [apartA, Bool.and_eq_true, Bool.not_eq_true'] at h
  constructor
  · intro hd; have := h.1; rw [hd] at this; simpa [inO] using this
  · intro hd; have := h.2; rw [hd] at this; simpa [inO] using this

/-- What an item looks at is as the one order has it. -/
theorem Tms.at {items : List DItem} {L : Nat → Bool} {tr : Tr} {f : Nat} {ρ0 : Env} {S0 : AS} {μ : Mu} {N : Nat} {a : Act} (h : Tms items L tr ρ0 μ N a) (g : Good items L tr f ρ0 S0) {j : Nat} {it : DItem} (hj : items[j]? = some it) (hjf : j ≤ f) (hn : L it.i = false) (ho : Off items L f j) :
    ERel μ N (keepE (tr.ρ j) it.ao.looks) a := by
  refine ⟨h.size, fun t u hu => ?_⟩
  obtain ⟨ht, hu⟩ := keepE_mem hu
  rcases g.env hjf hu with ⟨p, x, h1, h2, h3, rfl⟩ | ⟨h1, h2⟩
  · cases hl : L x.i with
    | true => exact h.t1 p x t h2 hl h3
    | false => exact absurd ht ((apartA_spec ((ho.before p x h1 h2 hl).2 it hj).1).1 h3)
  · refine h.t0 t u (fun p x hx hl hd => ?_) h2
    rcases Nat.lt_trichotomy p j with h3 | h3 | h3
    · exact h1 p x h3 hx hd
    · subst h3; rw [hj] at hx; cases hx; rw [hn] at hl; cases hl
    · exact (apartA_spec (ho.after p x h3 hx hl it hj).2.1).2 hd ht

theorem Chain.dst {N : Nat} {ops : Array Oper} {items : List DItem} (h : Chain P N ops items) {p q : Nat} {x y : DItem} (hp : items[p]? = some x) (hq : items[q]? = some y) {t : Nat} (hx : x.ao.dst = some t) (hy : y.ao.dst = some t) : p = q := by
  have key : ∀ {p q : Nat} {x y : DItem}, items[p]? = some x → items[q]? = some y → p < q → x.ao.dst = some t → y.ao.dst = some t → False := by
    intro p q x y hp hq hlt hx hy
    have := ((h.at hq).ne x (List.mem_of_getElem? (i := p) (by rw [List.getElem?_take_of_lt hlt]; exact hp))).2
    rw [hx, hy] at this
    simp [dstNe] at this
  rcases Nat.lt_trichotomy p q with hlt | heq | hgt
  · exact (key hp hq hlt hx hy).elim
  · exact heq
  · exact (key hq hp hgt hy hx).elim

def lst (L : Nat → Bool) (i : Nat) : Nat → Bool := fun k => L k || k == i

theorem Tms.put {items : List DItem} {L : Nat → Bool} {tr tr' : Tr} {ρ0 : Env} {μ μ' : Mu} {N : Nat} {a : Act} {ops : Array Oper} (hch : Chain P N ops items) (h : Tms items L tr ρ0 μ N a) (hs : Sub μ μ') {j : Nat} {it : DItem} (hj : items[j]? = some it)
    {v' : Value} (hv : VRel μ' (tr'.v j) v') (hd : ∀ t, it.ao.dst = some t → t < N) (hsame : ∀ p x, p ≠ j → items[p]? = some x → L x.i = true → tr'.v p = tr.v p) : Tms items (lst L it.i) tr' ρ0 μ' N (a.put it.ao.dst v') := by
  refine ⟨?_, fun p x t hx hl hdx => ?_, fun t u hno hu => ?_⟩
  · cases hdd : it.ao.dst <;> simp [Act.put, h.size]
  · rw [put_getD h.size hd]
    split
    · rename_i hd'
      have := hch.dst hx hj hdx hd'
      subst this
      exact hv
    · rename_i hd'
      by_cases hpj : p = j
      · subst hpj; rw [hj] at hx; cases hx; exact absurd hdx hd'
      · have hl' : L x.i = true := by
          simp only [lst, Bool.or_eq_true, beq_iff_eq] at hl
          rcases hl with hl | hl
          · exact hl
          · exact absurd (hch.inj hx hj hl) hpj
        rw [hsame p x hpj hx hl']
        exact (h.t1 p x t hx hl' hdx).mono hs
  · rw [put_getD h.size hd, if_neg (hno j it hj (by simp [lst]))]
    exact (h.t0 t u (fun p x hx hl => hno p x hx (by simp [lst, hl])) hu).mono hs

/-- Memory behind some items. -/
structure Mem (B : Nat) (items : List DItem) (L : Nat → Bool) (tr : Tr) (f : Nat) (S0 : AS) (μ0 μ : Mu) (w0 w : World) : Prop where
  rel : Rel B μ ⟨ov (lis items L) tr.S tr.up f, (tr.S f).nx⟩ w
  fr : Fr S0 ⟨ov (lis items L) tr.S tr.up f, (tr.S f).nx⟩ μ0 μ w0 w
  map : ∀ id x, μ id = some x → id < S0.nx ∨ ∃ p, p < f ∧ lis items L p = true ∧ (tr.S p).nx ≤ id ∧ id < (tr.S (p + 1)).nx

theorem Mem.bnd {B : Nat} {items : List DItem} {L : Nat → Bool} {tr : Tr} {f : Nat} {ρ0 : Env} {S0 : AS} {μ0 μ : Mu} {w0 w : World} (m : Mem B items L tr f S0 μ0 μ w0 w) (g : Good items L tr f ρ0 S0) {id : Nat} (h : (tr.S f).nx ≤ id) : μ id = none := by
  cases hm : μ id with
  | none => rfl
  | some x =>
    exfalso
    rcases m.map id x hm with h1 | ⟨p, h1, h2, h3, h4⟩
    · have := g.nx (p := 0) (q := f) (by omega) (Nat.le_refl _); rw [g.z2] at this; omega
    · have := g.nx (p := p + 1) (q := f) (by omega) (Nat.le_refl _); omega

theorem lis_lst {N : Nat} {ops : Array Oper} {items : List DItem} (hch : Chain P N ops items) {L : Nat → Bool} {j : Nat} {it : DItem} (hj : items[j]? = some it) : lis items (lst L it.i) j = true ∧ ∀ p, p ≠ j → lis items (lst L it.i) p = lis items L p := by
  refine ⟨by simp [lis, hj, lst], fun p hp => ?_⟩
  unfold lis
  cases hx : items[p]? with
  | none => rfl
  | some x =>
    simp only [lst]
    have : (x.i == it.i) = false := by
      simp only [beq_eq_false_iff_ne]
      exact fun h => hp (hch.inj hx hj h)
    simp [this]

end Go.Ax

/- Regions whose order is open: one item done, be it behind the one order or at its head. -/
namespace Go.Ax
variable {P : Program}

theorem Good.lst {N : Nat} {ops : Array Oper} {items : List DItem} (hch : Chain P N ops items) {L : Nat → Bool} {tr : Tr} {f : Nat} {ρ0 : Env} {S0 : AS} (g : Good items L tr f ρ0 S0) {j : Nat} {it : DItem} (hj : items[j]? = some it) (hjf : j < f) : Good items (Ax.lst L it.i) tr f ρ0 S0 where
  z1 := g.z1
  z2 := g.z2
  len := g.len
  ev := fun p x hp hx => (g.ev p x hp hx).listed fun i hi => by simp [Ax.lst, hi]
  lt := fun p x hx hl => by
    simp only [Ax.lst, Bool.or_eq_true, beq_iff_eq] at hl
    rcases hl with hl | hl
    · exact g.lt p x hx hl
    · rw [hch.inj hx hj hl]; exact hjf
  dom := g.dom

theorem cOper_spec {N : Nat} {ops : Array Oper} {o : Oper} {a : AOper} (h : cOper P N ops o = some a) : cOp P o = some a.op ∧ cGuard ops o.guard = some a.guard ∧ a.dst = o.dst ∧ ∀ t, o.dst = some t → t < N := by
  unfold cOper at h
  split at h
  · rename_i x y h1 h2
    split at h
    · rename_i hd
      cases h
      exact ⟨h1, h2, rfl, dst_lt hd⟩
    · cases h
  · cases h

theorem lis_mono {items : List DItem} {L : Nat → Bool} {i p : Nat} (h : lis items L p = true) : lis items (Ax.lst L i) p = true := by
  unfold lis at *
  split at h
  · simp [Ax.lst, h]
  · cases h

theorem exec_op {B N : Nat} {ops : Array Oper} {items : List DItem} (hch : Chain P N ops items) {L : Nat → Bool} {tr : Tr} {f : Nat} {ρ0 : Env} {S0 : AS} {μ0 μ : Mu} {w0 w : World} {a : Act} (g : Good items L tr f ρ0 S0) (m : Mem B items L tr f S0 μ0 μ w0 w) (t : Tms items L tr ρ0 μ N a)
    {j : Nat} {it : DItem} (hj : items[j]? = some it) (hjf : j < f) (hn : L it.i = false) (ho : Off items L f j) {K : Act → World → Prop} {Q : Exit → Act → World → Prop}
    (hK : ∀ a' w' μ', Good items (lst L it.i) tr f ρ0 S0 → Mem B items (lst L it.i) tr f S0 μ0 μ' w0 w' → Tms items (lst L it.i) tr ρ0 μ' N a' → a'.defers = a.defers → K a' w') : Go.wpOp P ops Q it.i K a w := by
  obtain ⟨o, ho1, ho2, _⟩ := (hch.at hj).op
  obtain ⟨hc, hgd, hdst, hdlt⟩ := cOper_spec ho2
  have hE := t.at g hj (Nat.le_of_lt hjf) hn ho
  obtain ⟨hcong, hwant⟩ := ev_looks (ρ := keepE (tr.ρ j) it.ao.looks) (ρ' := tr.ρ j) (a := it.ao) (fun t ht => keepE_look ht)
  have hg' := g.lst hch hj hjf
  obtain ⟨hlj, hlp⟩ := lis_lst hch (L := L) hj
  have hdefers : ∀ v', (a.put o.dst v').defers = a.defers := fun v' => by cases o.dst <;> rfl
  have hput : ∀ {μ' : Mu} {v' : Value}, Sub μ μ' → VRel μ' (tr.v j) v' → Tms items (lst L it.i) tr ρ0 μ' N (a.put o.dst v') := fun hs hv => by
    have := t.put (tr' := tr) hch hs hj hv (by rw [hdst]; exact hdlt) (fun _ _ _ _ _ => rfl)
    rwa [hdst] at this
  unfold Go.wpOp
  rw [ho1]
  simp only
  have hev := g.ev j it hjf hj
  have hev0 := hev
  cases hev with
  | skip hw hv hS hu hr hρ =>
    rw [want_sound hE hgd (hwant.trans hw)]
    simp only [Bool.false_eq_true, if_false]
    refine hK _ _ μ hg' ?_ (hput (fun _ _ h => h) (by rw [hv]; exact undef_rel μ)) (hdefers _)
    have hov : ov (lis items (lst L it.i)) tr.S tr.up f = ov (lis items L) tr.S tr.up f := by
      funext id
      rw [ov_exec hjf hlp hlj (fun h => by rw [hu] at h; cases h), hu]
      rfl
    refine ⟨by rw [hov]; exact m.rel, by rw [hov]; exact m.fr, fun id x h => ?_⟩
    rcases m.map id x h with h1 | ⟨p, h1, h2, h3⟩
    · exact .inl h1
    · exact .inr ⟨p, h1, lis_mono h2, h3⟩
  | op c hw hcl hs hS hok hwr hloc hu hr hpairs hρ =>
    rw [want_sound hE hgd (hwant.trans hw)]
    simp only [if_true]
    left
    obtain ⟨n, hn1, hn2, hn3⟩ : ∃ n, (n = (tr.S j).nx ∨ c.new = none) ∧ μ n = none ∧ (c.new.isSome = true → n = (tr.S j).nx) := by
      cases hcn : c.new with
      | none => exact ⟨(tr.S f).nx, .inr rfl, m.bnd g (Nat.le_refl _), by simp⟩
      | some x =>
        refine ⟨(tr.S j).nx, .inl rfl, ?_, fun _ => rfl⟩
        cases hm : μ (tr.S j).nx with
        | none => rfl
        | some y =>
          exfalso
          rcases m.map _ y hm with h1 | ⟨p, h1, h2, h3, h4⟩
          · have := g.nx (p := 0) (q := j) (by omega) (by omega); rw [g.z2] at this; omega
          · have e : (tr.S (j + 1)).nx = (tr.S j).nx + 1 := by rw [hS, Delta.app_nx, hcn]; rfl
            rcases Nat.lt_trichotomy p j with h5 | h5 | h5
            · have := g.nx (p := p + 1) (q := j) (by omega) (by omega); omega
            · subst h5; unfold lis at h2; rw [hj] at h2; simp only at h2; rw [hn] at h2; cases h2
            · have := g.nx (p := j + 1) (q := p) (by omega) (by omega); omega
    obtain ⟨T, hT⟩ : ∃ T : AS, T = ⟨fun id => if id ∈ idsE (tr.ρ j) it.ao.op.mems then (tr.S j).h id else none, n⟩ := ⟨_, rfl⟩
    have hTn : T.nx = n := by rw [hT]
    have hTh : ∀ id, T.h id = if id ∈ idsE (tr.ρ j) it.ao.op.mems then (tr.S j).h id else none := fun id => by rw [hT]
    have hstep : step it.ao.op (keepE (tr.ρ j) it.ao.looks) T = some (tr.v j, c.app T) := by
      rw [step_env hcong]
      exact hloc T (fun i hi => by rw [hTh, if_pos hi]) (by rw [hTn]; exact hn1)
    have hrel : (tr.S j).h = (tr.S j).h := rfl
    have hids : (tr.hs j).ids = idsE (tr.ρ j) it.ao.op.mems := by rw [hr]
    have hrelj : ∀ id, id ∈ idsE (tr.ρ j) it.ao.op.mems → it.ao.op.rel = true := fun id hid => by
      simp only [AOp.rel, Bool.or_eq_true, Bool.not_eq_true']
      left; left
      cases hm : it.ao.op.mems with
      | nil => rw [hm] at hid; simp [idsE] at hid
      | cons => rfl
    have hTH : ∀ id x, T.h id = some x → ov (lis items L) tr.S tr.up f id = some x := by
      intro id x hx
      rw [hTh] at hx
      split at hx
      · rename_i hid
        have hlt := g.dom j (Nat.le_of_lt hjf) id x hx
        rw [g.vis (j := j) (Nat.le_of_lt hjf) ?_ ?_]
        · exact hx
        · intro p y hp hy hl
          obtain ⟨k1, k2⟩ := ho.before p y hp hy hl
          have hevp := g.ev p y (by omega) hy
          cases hup : tr.up p id with
          | false => rfl
          | true =>
            exfalso
            have hU := (k2 it hj).2 (hrelj id hid) (hevp.rel hup)
            obtain ⟨q1, q2⟩ := okPair_at (List.all_eq_true.1 hpairs _ (tr.mem_recs hp hU)) hid
            rcases hevp.touch k1 hup with ⟨h1, h2, _⟩ | ⟨h1, h2, h3, h4⟩
            · exact q2 (.inr h2) h1
            · exact q1 ⟨by omega, by omega⟩
        · intro p h1 h2 hl
          by_cases hpj : p = j
          · subst hpj; unfold lis at hl; rw [hj] at hl; simp only at hl; rw [hn] at hl; cases hl
          · exact g.later hj ho (hrelj id hid) (.inl ⟨by rw [hids]; exact hid, hlt⟩) p (by omega) h2 hl
      · cases hx
    have rT : Rel B μ T w := m.rel.weaken hTH
    obtain ⟨v', μ', w', hrun, hv, hr', hf⟩ := step_sound rT (by rw [hTn]; exact hn2) hE hc hstep
    have hmem : Mem B items (lst L it.i) tr f S0 μ0 μ' w0 w' := by
      have halike := fun id => Delta.alike (c := c) (S := tr.S j) (T := T) (by rw [hTn]; exact hn1) id
      have hH : ∀ id, ov (lis items (lst L it.i)) tr.S tr.up f id = if tr.up j id then (c.app T).h id else ov (lis items L) tr.S tr.up f id := by
        intro id
        rw [ov_exec hjf hlp hlj]
        · by_cases h : tr.up j id = true
          · rw [if_pos h, if_pos h, hS, (halike id).2 (by rw [← hu]; exact h)]
          · rw [if_neg h, if_neg h]
        · intro h p h1 h2 hl
          refine g.later hj ho (hev0.rel h) ?_ p h1 h2 hl
          rcases hev0.touch hcl h with ⟨h3, _, _, x, h4⟩ | ⟨h3, h4, h5, h6⟩
          · exact .inl ⟨h3, g.dom j (Nat.le_of_lt hjf) id x h4⟩
          · exact .inr ⟨by omega, by omega, by omega⟩
      have hnew : ∀ id, T.nx ≤ id → id < (c.app T).nx → id = (tr.S j).nx ∧ (tr.S (j + 1)).nx = (tr.S j).nx + 1 := by
        intro id h1 h2
        rw [Delta.app_nx] at h2
        cases hcn : c.new with
        | none => rw [hcn] at h2; simp at h2; omega
        | some x =>
          rw [hcn] at h2
          simp at h2
          have := hn3 (by rw [hcn]; rfl)
          refine ⟨by omega, by rw [hS, Delta.app_nx, hcn]; rfl⟩
      refine ⟨?_, ?_, ?_⟩
      · exact over_rel (tr.up j) m.rel hr' hf hTH hH fun id x h1 h2 _ => by
          rw [Delta.keep (by rw [(halike id).1, ← hu]; exact h1)]; exact h2
      · refine over_fr (tr.up j) m.rel m.fr hf hTH hH (Nat.le_refl _) fun id h1 h2 => ?_
        obtain ⟨k1, k2⟩ := hnew id h1 h2
        have e1 := g.nx (p := 0) (q := j) (by omega) (by omega)
        have e2 := g.nx (p := j + 1) (q := f) (by omega) (by omega)
        rw [g.z2] at e1
        omega
      · intro id x h
        cases hm : μ id with
        | some y =>
          rcases m.map id y hm with h1 | ⟨p, h1, h2, h3⟩
          · exact .inl h1
          · exact .inr ⟨p, h1, lis_mono h2, h3⟩
        | none =>
          obtain ⟨k1, k2⟩ := hf.fresh id x hm h
          obtain ⟨k3, k4⟩ := hnew id k1 k2
          exact .inr ⟨j, hjf, hlj, by omega, by omega⟩
    unfold Oper.wp
    rcases hrun with hrun | ⟨hrun, rfl⟩
    · rw [hrun]; exact hK _ _ μ' hg' hmem (hput hf.sub hv) (hdefers _)
    · rw [hrun]; exact hK _ _ μ' hg' hmem (hput hf.sub hv) (hdefers _)
  | call hL => rw [hn] at hL; cases hL

end Go.Ax

/- Regions whose order is open: the head of the one order goes on. -/
namespace Go.Ax
variable {P : Program}

def Tr.ext (tr : Tr) (f : Nat) (ρ : Env) (S : AS) (v : Value) (up : Nat → Bool) (r : DRec) : Tr :=
  ⟨upd tr.ρ (f + 1) ρ, upd tr.S (f + 1) S, upd tr.v f v, upd tr.up f up, upd tr.hs f r⟩

theorem Tr.ext_hist (tr : Tr) (f : Nat) (ρ : Env) (S : AS) (v : Value) (up : Nat → Bool) (r : DRec) {p : Nat} (h : p ≤ f) : (tr.ext f ρ S v up r).hist p = tr.hist p := by
  unfold Tr.hist
  refine List.map_congr_left fun x hx => ?_
  have := List.mem_range.1 hx
  exact upd_ne _ _ (by omega)

theorem Tr.ext_hist1 (tr : Tr) (f : Nat) (ρ : Env) (S : AS) (v : Value) (up : Nat → Bool) (r : DRec) : (tr.ext f ρ S v up r).hist (f + 1) = tr.hist f ++ [r] := by
  have := tr.ext_hist f ρ S v up r (Nat.le_refl f)
  unfold Tr.hist at *
  rw [List.range_succ, List.map_append, this]
  simp [Tr.ext, upd]

theorem Good.ext {items : List DItem} {L L' : Nat → Bool} {tr : Tr} {f : Nat} {ρ0 : Env} {S0 : AS} (g : Good items L tr f ρ0 S0) (hl : ∀ i, L i = true → L' i = true) (hlt : ∀ p x, items[p]? = some x → L' x.i = true → p < f + 1)
    {it : DItem} (hf : items[f]? = some it) {ρ : Env} {S : AS} {v : Value} {up : Nat → Bool} {r : DRec} (he : Ev1 L' it (recs (tr.hist f) it.U) (tr.ρ f) ρ (tr.S f) S v up r) (hd : ∀ id o, S.h id = some o → id < S.nx) :
    Good items L' (tr.ext f ρ S v up r) (f + 1) ρ0 S0 where
  z1 := by simp only [Tr.ext]; rw [upd_ne _ _ (by omega)]; exact g.z1
  z2 := by simp only [Tr.ext]; rw [upd_ne _ _ (by omega)]; exact g.z2
  len := by
    rcases Nat.lt_or_ge f items.length with h | h
    · exact h
    · rw [List.getElem?_eq_none h] at hf; cases hf
  ev := fun p x hp hx => by
    rw [tr.ext_hist f ρ S v up r (by omega)]
    simp only [Tr.ext]
    by_cases hpf : p = f
    · subst hpf
      rw [hf] at hx; cases hx
      rw [upd_ne _ _ (by omega), upd_self, upd_ne _ _ (by omega), upd_self, upd_self, upd_self, upd_self]
      exact he
    · rw [upd_ne _ _ (by omega), upd_ne _ _ (by omega), upd_ne _ _ (by omega), upd_ne _ _ (by omega), upd_ne _ _ (by omega), upd_ne _ _ (by omega), upd_ne _ _ (by omega)]
      exact (g.ev p x (by omega) hx).listed hl
  lt := hlt
  dom := fun p hp id o ho => by
    simp only [Tr.ext] at ho ⊢
    by_cases hpf : p = f + 1
    · subst hpf; rw [upd_self] at ho ⊢; exact hd id o ho
    · rw [upd_ne _ _ hpf] at ho ⊢; exact g.dom p (by omega) id o ho

theorem ov_congr {l l' : Nat → Bool} {S S' : Nat → AS} {up up' : Nat → Nat → Bool} {id : Nat} : ∀ {f : Nat}, (∀ p, p < f → l p = l' p) → (∀ p, p ≤ f → S p = S' p) → (∀ p, p < f → up p = up' p) → ov l S up f id = ov l' S' up' f id
  | 0, _, h2, _ => by simp only [ov]; rw [h2 0 (Nat.le_refl _)]
  | f + 1, h1, h2, h3 => by
    simp only [ov]
    rw [h1 f (by omega), h2 (f + 1) (by omega), h3 f (by omega), ov_congr (fun p hp => h1 p (by omega)) (fun p hp => h2 p (by omega)) (fun p hp => h3 p (by omega))]

theorem ov_ext {l l' : Nat → Bool} (tr : Tr) (f : Nat) (ρ : Env) (S : AS) (v : Value) (up : Nat → Bool) (r : DRec) (id : Nat) (hl : ∀ p, p < f → l' p = l p) :
    ov l' (tr.ext f ρ S v up r).S (tr.ext f ρ S v up r).up (f + 1) id = if l' f && up id then S.h id else ov l tr.S tr.up f id := by
  simp only [ov]
  have e1 : (tr.ext f ρ S v up r).up f = up := upd_self _ _ _
  have e2 : (tr.ext f ρ S v up r).S (f + 1) = S := upd_self _ _ _
  have e3 : ov l' (tr.ext f ρ S v up r).S (tr.ext f ρ S v up r).up f id = ov l tr.S tr.up f id := ov_congr hl (fun p hp => upd_ne _ _ (by omega)) (fun p hp => upd_ne _ _ (by omega))
  rw [e1, e2, e3]

theorem Fr.more {S : AS} {H : Nat → Option AObj} {m m' : Nat} {μ μ' : Mu} {w w' : World} (F : Fr S ⟨H, m⟩ μ μ' w w') (h : m ≤ m') : Fr S ⟨H, m'⟩ μ μ' w w' :=
  { os := F.os, tape := F.tape, output := F.output, size := F.size, sub := F.sub, nx := Nat.le_trans F.nx h, fresh := fun i p h1 h2 => ⟨(F.fresh i p h1 h2).1, Nat.lt_of_lt_of_le (F.fresh i p h1 h2).2 h⟩, ro := F.ro, blk := F.blk, own := F.own }

structure Inv (Γ : Fns) (K0 : Env → AS → Prop) (B N : Nat) (items : List DItem) (L : Nat → Bool) (ρ0 : Env) (S0 : AS) (μ0 : Mu) (w0 : World) (a : Act) (w : World) (tr : Tr) (f : Nat) (μ : Mu) : Prop where
  good : Good items L tr f ρ0 S0
  mem : Mem B items L tr f S0 μ0 μ w0 w
  tms : Tms items L tr ρ0 μ N a
  rest : wpDops Γ ((items.drop f).map fun x => (x.ao, x.U)) (tr.hist f) (tr.ρ f) (tr.S f) K0

theorem drop_at {items : List DItem} {f : Nat} {it : DItem} (h : items[f]? = some it) : items.drop f = it :: items.drop (f + 1) := by
  obtain ⟨h1, h2⟩ := List.getElem?_eq_some_iff.1 h
  rw [List.drop_eq_getElem_cons h1, h2]

theorem Inv.pass {Γ : Fns} {K0 : Env → AS → Prop} {B N : Nat} {items : List DItem} {L : Nat → Bool} {ρ0 : Env} {S0 : AS} {μ0 : Mu} {w0 : World} {a : Act} {w : World} {tr : Tr} {f : Nat} {μ : Mu} (h : Inv Γ K0 B N items L ρ0 S0 μ0 w0 a w tr f μ)
    {it : DItem} (hf : items[f]? = some it) {ρ : Env} {S : AS} {v : Value} {up : Nat → Bool} {r : DRec} (he : Ev1 L it (recs (tr.hist f) it.U) (tr.ρ f) ρ (tr.S f) S v up r) (hd : ∀ id o, S.h id = some o → id < S.nx)
    (hrest : wpDops Γ ((items.drop (f + 1)).map fun x => (x.ao, x.U)) (tr.hist f ++ [r]) ρ S K0) : Inv Γ K0 B N items L ρ0 S0 μ0 w0 a w (tr.ext f ρ S v up r) (f + 1) μ := by
  have hlf : lis items L f = false := by
    cases hl : lis items L f with
    | false => rfl
    | true => unfold lis at hl; rw [hf] at hl; exact absurd (h.good.lt f it hf hl) (by omega)
  have g := h.good.ext (fun _ h => h) (fun p x hx hl => Nat.lt_succ_of_lt (h.good.lt p x hx hl)) hf he hd
  have hov : ov (lis items L) (tr.ext f ρ S v up r).S (tr.ext f ρ S v up r).up (f + 1) = ov (lis items L) tr.S tr.up f := by
    funext id
    rw [ov_ext tr f ρ S v up r id (fun _ _ => rfl), hlf]
    rfl
  have hS : (tr.ext f ρ S v up r).S (f + 1) = S := upd_self _ _ _
  have hρ : (tr.ext f ρ S v up r).ρ (f + 1) = ρ := upd_self _ _ _
  refine ⟨g, ⟨?_, ?_, ?_⟩, ⟨h.tms.size, fun p x t hx hl hdx => ?_, h.tms.t0⟩, ?_⟩
  · rw [hov]; exact h.mem.rel.weaken fun _ _ h => h
  · rw [hov, hS]; exact h.mem.fr.more he.nx
  · intro id x hx
    rcases h.mem.map id x hx with h1 | ⟨p, h1, h2, h3, h4⟩
    · exact .inl h1
    · refine .inr ⟨p, by omega, h2, ?_, ?_⟩
      · simp only [Tr.ext]; rw [upd_ne _ _ (by omega)]; exact h3
      · simp only [Tr.ext]; rw [upd_ne _ _ (by omega)]; exact h4
  · have := h.good.lt p x hx hl
    simp only [Tr.ext]
    rw [upd_ne _ _ (by omega)]
    exact h.tms.t1 p x t hx hl hdx
  · rw [Tr.ext_hist1, hS, hρ]; exact hrest

theorem wp_advance {Γ : Fns} {K0 : Env → AS → Prop} {B N : Nat} {items : List DItem} {L : Nat → Bool} {ρ0 : Env} {S0 : AS} {μ0 : Mu} {w0 : World} {a : Act} {w : World} {μ : Mu} : ∀ (n f : Nat) (tr : Tr), items.length = f + n → Inv Γ K0 B N items L ρ0 S0 μ0 w0 a w tr f μ →
    ∃ tr f, Inv Γ K0 B N items L ρ0 S0 μ0 w0 a w tr f μ ∧ (f = items.length ∨ ∃ it, items[f]? = some it ∧ it.ao.op.isCall = true ∧ wantA (tr.ρ f) it.ao.guard = some true) := by
  intro n
  induction n with
  | zero => intro f tr hn h; exact ⟨tr, f, h, .inl (by omega)⟩
  | succ n ih =>
    intro f tr hn h
    have hflt : f < items.length := by omega
    have hf : items[f]? = some items[f] := by simp [hflt]
    obtain ⟨it, hit⟩ : ∃ it, it = items[f] := ⟨_, rfl⟩
    rw [← hit] at hf
    have hrest := h.rest
    rw [drop_at hf] at hrest
    simp only [List.map_cons, wpDops] at hrest
    split at hrest
    · exact hrest.elim
    · rename_i hw
      exact ih (f + 1) _ (by omega) (h.pass hf (v := undef) (up := fun _ => false) (r := DRec.none) (.skip hw rfl rfl (fun _ => rfl) rfl rfl) (h.good.dom f (Nat.le_refl _)) hrest)
    · rename_i hw
      split at hrest
      · rename_i hcl
        exact ⟨tr, f, h, .inr ⟨it, hf, hcl, hw⟩⟩
      · rename_i hcl
        split at hrest
        · rename_i v S' hs
          split at hrest
          case isFalse => exact hrest.elim
          rename_i hp
          obtain ⟨c, k1, k2, k3, k4⟩ := step_local hs
          refine ih (f + 1) _ (by omega) (h.pass hf (v := v) (up := c.hits (tr.S f)) (.op c hw (by simpa using hcl) hs k1 k2 k3 k4 (fun _ => rfl) rfl hp rfl) ?_ hrest)
          intro id o ho
          have hdm := h.good.dom f (Nat.le_refl _)
          rw [k1] at ho ⊢
          rw [Delta.app_nx]
          rw [Delta.app_h] at ho
          split at ho
          · rename_i hh
            simp only [Bool.and_eq_true, beq_iff_eq] at hh
            rw [hh.1]; simp; omega
          · split at ho
            · rename_i b o' hu
              split at ho
              · rename_i hb
                subst hb
                obtain ⟨y, h2, _⟩ := (k2.upd id o' hu).2.1
                exact Nat.lt_add_right _ (hdm id y h2)
              · exact Nat.lt_add_right _ (hdm id o ho)
            · exact Nat.lt_add_right _ (hdm id o ho)
        · exact hrest.elim

end Go.Ax

/- Regions whose order is open: a call in its turn; all orders. -/
namespace Go.Ax
variable {P : Program}

theorem roAt_some {S : AS} {id : Nat} {o : AObj} (h : S.h id = some o) : S.roAt id = o.ro := by simp [AS.roAt, h]

theorem exec_call {B N : Nat} {ops : Array Oper} {items : List DItem} (hch : Chain P N ops items) {Γ : Fns} (hΓ : FnsOk P B Γ) {K0 : Env → AS → Prop} {L : Nat → Bool} {tr : Tr} {f : Nat} {ρ0 : Env} {S0 : AS} {μ0 μ : Mu} {w0 w : World} {a : Act}
    (h : Inv Γ K0 B N items L ρ0 S0 μ0 w0 a w tr f μ) {it : DItem} (hf : items[f]? = some it) (hcl : it.ao.op.isCall = true) (hw : wantA (tr.ρ f) it.ao.guard = some true) (hn : L it.i = false) (ho : Off items L f f) {K : Act → World → Prop} {Q : Exit → Act → World → Prop}
    (hK : ∀ a' w' tr' μ', Inv Γ K0 B N items (lst L it.i) ρ0 S0 μ0 w0 a' w' tr' (f + 1) μ' → a'.defers = a.defers → K a' w') : Go.wpOp P ops Q it.i K a w := by
  obtain ⟨o, ho1, ho2, _⟩ := (hch.at hf).op
  obtain ⟨hc, hgd, hdst, hdlt⟩ := cOper_spec ho2
  have g := h.good
  have hE := h.tms.at g hf (Nat.le_refl _) hn ho
  obtain ⟨hcong, hwant⟩ := ev_looks (ρ := keepE (tr.ρ f) it.ao.looks) (ρ' := tr.ρ f) (a := it.ao) (fun t ht => keepE_look ht)
  obtain ⟨hlj, hlp⟩ := lis_lst hch (L := L) hf
  unfold Go.wpOp
  rw [ho1]
  simp only
  rw [want_sound hE hgd (hwant.trans hw)]
  simp only [if_true]
  left
  have hrest := h.rest
  rw [drop_at hf] at hrest
  simp only [List.map_cons, wpDops, hw, hcl, if_true] at hrest
  obtain ⟨hid, hhid⟩ : ∃ hid, hid = hidden (tr.S f) (recs (tr.hist f) it.U) := ⟨_, rfl⟩
  rw [← hhid] at hrest
  have hTH : ∀ id x, ((tr.S f).hide hid).h id = some x → ov (lis items L) tr.S tr.up f id = some x := by
    intro id x hx
    simp only [AS.hide] at hx
    split at hx
    · cases hx
    · rename_i hnid
      have hnid' : hid.contains id = false := by simpa using hnid
      rw [g.vis (j := f) (Nat.le_refl _) ?_ (fun p h1 h2 => by omega)]
      · exact hx
      · intro p y hp hy hl
        obtain ⟨k1, k2⟩ := ho.before p y hp hy hl
        have hevp := g.ev p y hp hy
        cases hup : tr.up p id with
        | false => rfl
        | true =>
          exfalso
          have hU := (k2 it hf).2 (by simp [AOp.rel, hcl]) (hevp.rel hup)
          rw [hhid] at hnid'
          obtain ⟨q1, q2⟩ := hidden_at (tr.mem_recs hp hU) hnid'
          rcases hevp.touch k1 hup with ⟨h1, h2, h3, _⟩ | ⟨h1, h2, h3, h4⟩
          · refine q1 ?_ h1
            cases hro : (tr.S f).roAt id with
            | false => rfl
            | true => rw [g.ro (Nat.le_of_lt hp) (Nat.le_refl _) hro] at h3; cases h3
          · exact q2 ⟨by omega, by omega⟩
  have rT : Rel B μ ((tr.S f).hide hid) w := h.mem.rel.weaken hTH
  have bT : Bnd μ ((tr.S f).hide hid) := fun i hi => h.mem.bnd g hi
  refine wpOp_sound hΓ rT bT hE hc ((wpOp_env hcong _ _).2 hrest) ?_
  intro v v' μ' S1 w' hrest' hv hr' hfr
  have hb' := hfr.bnd bT
  obtain ⟨u, hu⟩ : ∃ u : Nat → Bool, u = fun id => !hid.contains id && !(tr.S f).roAt id := ⟨_, rfl⟩
  have hjoin : ∀ id, ((tr.S f).join hid S1).h id = if u id then S1.h id else (tr.S f).h id := by
    intro id
    have hro : ((tr.S f).roAt id && decide (id < (tr.S f).nx)) = (tr.S f).roAt id := by
      cases h : (tr.S f).roAt id with
      | false => rfl
      | true =>
        unfold AS.roAt at h
        split at h
        · rename_i x hx; simp [g.dom f (Nat.le_refl _) id x hx]
        · cases h
    simp only [AS.join, hu, hro]
    cases hid.contains id <;> cases (tr.S f).roAt id <;> simp
  have hjnx : ((tr.S f).join hid S1).nx = S1.nx := rfl
  have hdom : ∀ id x, ((tr.S f).join hid S1).h id = some x → id < ((tr.S f).join hid S1).nx := by
    intro id x hx
    rw [hjoin] at hx
    rw [hjnx]
    split at hx
    · obtain ⟨b, d, z, k1, _⟩ := hr'.obj id x hx
      rcases Nat.lt_or_ge id S1.nx with h5 | h5
      · exact h5
      · rw [hb' id h5] at k1; cases k1
    · exact Nat.lt_of_lt_of_le (g.dom f (Nat.le_refl _) id x hx) hfr.nx
  have hev : Ev1 (lst L it.i) it (recs (tr.hist f) it.U) (tr.ρ f) (putE (tr.ρ f) it.ao.dst v) (tr.S f) ((tr.S f).join hid S1) v u DRec.none := by
    refine .call (by simp [lst]) hcl hw (fun id => by rw [hu, hhid]) (fun id hid0 => ?_) hfr.nx rfl (fun id hro => ?_) rfl
    · rw [hjoin, hid0]; rfl
    · unfold AS.roAt at hro
      rw [hjoin] at hro
      split at hro
      · rename_i x hx
        split at hx
        · have := hfr.ro id x hx hro
          simp only [AS.hide] at this
          split at this
          · cases this
          · rw [roAt_some this]; exact hro
        · rw [roAt_some hx]; exact hro
      · cases hro
  have hlt : ∀ p x, items[p]? = some x → lst L it.i x.i = true → p < f + 1 := by
    intro p x hx hl
    simp only [lst, Bool.or_eq_true, beq_iff_eq] at hl
    rcases hl with hl | hl
    · exact Nat.lt_succ_of_lt (g.lt p x hx hl)
    · rw [hch.inj hx hf hl]; omega
  have g' := g.ext (L' := lst L it.i) (fun i hi => by simp [lst, hi]) hlt hf hev hdom
  have hS : (tr.ext f (putE (tr.ρ f) it.ao.dst v) ((tr.S f).join hid S1) v u DRec.none).S (f + 1) = (tr.S f).join hid S1 := upd_self _ _ _
  have hρ : (tr.ext f (putE (tr.ρ f) it.ao.dst v) ((tr.S f).join hid S1) v u DRec.none).ρ (f + 1) = putE (tr.ρ f) it.ao.dst v := upd_self _ _ _
  have hvf : (tr.ext f (putE (tr.ρ f) it.ao.dst v) ((tr.S f).join hid S1) v u DRec.none).v f = v := upd_self _ _ _
  have hH : ∀ id, ov (lis items (lst L it.i)) (tr.ext f (putE (tr.ρ f) it.ao.dst v) ((tr.S f).join hid S1) v u DRec.none).S (tr.ext f (putE (tr.ρ f) it.ao.dst v) ((tr.S f).join hid S1) v u DRec.none).up (f + 1) id = if u id then S1.h id else ov (lis items L) tr.S tr.up f id := by
    intro id
    rw [ov_ext tr f _ _ v u DRec.none id (fun p hp => hlp p (by omega)), hlj, Bool.true_and, hjoin]
    by_cases h : u id = true
    · rw [if_pos h, if_pos h, if_pos h]
    · rw [if_neg h, if_neg h]
  have hk : ∀ id x, u id = false → ((tr.S f).hide hid).h id = some x → x.ro = false → S1.h id = some x := by
    intro id x h1 h2 h3
    exfalso
    simp only [AS.hide] at h2
    split at h2
    · cases h2
    · rename_i hnid
      have h1' : (!hid.contains id && !(tr.S f).roAt id) = false := by rw [hu] at h1; exact h1
      rw [roAt_some h2, h3] at h1'
      simp at h1' hnid
      exact hnid h1'
  refine hK _ _ (tr.ext f (putE (tr.ρ f) it.ao.dst v) ((tr.S f).join hid S1) v u DRec.none) μ' ⟨g', ⟨?_, ?_, ?_⟩, ?_, ?_⟩ (by cases o.dst <;> rfl)
  · rw [hS]
    exact over_rel u h.mem.rel hr' hfr hTH hH hk
  · rw [hS]
    refine over_fr u h.mem.rel h.mem.fr hfr hTH hH hfr.nx fun id h1 h2 => ?_
    have := g.nx (p := 0) (q := f) (by omega) (by omega)
    rw [g.z2] at this
    have h1' : (tr.S f).nx ≤ id := h1
    exact ⟨by omega, h2⟩
  · intro id x hx
    cases hm : μ id with
    | some y =>
      rcases h.mem.map id y hm with h1 | ⟨p, h1, h2, h3, h4⟩
      · exact .inl h1
      · refine .inr ⟨p, by omega, lis_mono h2, ?_, ?_⟩
        · simp only [Tr.ext]; rw [upd_ne _ _ (by omega)]; exact h3
        · simp only [Tr.ext]; rw [upd_ne _ _ (by omega)]; exact h4
    | none =>
      obtain ⟨k1, k2⟩ := hfr.fresh id x hm hx
      refine .inr ⟨f, by omega, hlj, ?_, ?_⟩
      · simp only [Tr.ext]; rw [upd_ne _ _ (by omega)]; exact k1
      · rw [hS]; exact k2
  · have := h.tms.put (tr' := tr.ext f (putE (tr.ρ f) it.ao.dst v) ((tr.S f).join hid S1) v u DRec.none) hch hfr.sub hf (v' := v') (by rw [hvf]; exact hv) (by rw [hdst]; exact hdlt)
      (fun p x hpf _ _ => by simp only [Tr.ext]; rw [upd_ne _ _ hpf])
    rw [hdst] at this ⊢
    exact this
  · rw [Tr.ext_hist1, hS, hρ]; exact hrest'

theorem filter_le {p q : Nat → Bool} : ∀ {l : List Nat}, (∀ x ∈ l, p x = true → q x = true) → (l.filter p).length ≤ (l.filter q).length
  | [], _ => by simp
  | x :: l, h => by
    have ih := filter_le (l := l) (fun y hy => h y (by simp [hy]))
    simp only [List.filter_cons]
    by_cases hp : p x = true
    · rw [if_pos hp, if_pos (h x (by simp) hp)]; simp; exact ih
    · rw [if_neg hp]; split
      · simp; omega
      · exact ih

theorem filter_lt {p q : Nat → Bool} : ∀ {l : List Nat}, (∀ x ∈ l, p x = true → q x = true) → (∃ x ∈ l, q x = true ∧ p x = false) → (l.filter p).length < (l.filter q).length
  | [], _, h => by obtain ⟨x, h, _⟩ := h; simp at h
  | x :: l, h, ⟨y, hy, h1, h2⟩ => by
    simp only [List.filter_cons]
    have h' : ∀ z ∈ l, p z = true → q z = true := fun z hz => h z (by simp [hz])
    rcases List.mem_cons.1 hy with rfl | hy
    · rw [h2, h1]; simp; exact Nat.lt_succ_of_le (filter_le h')
    · have ih := filter_lt (l := l) h' ⟨y, hy, h1, h2⟩
      by_cases hp : p x = true
      · rw [if_pos hp, if_pos (h x (by simp) hp)]; simp; exact ih
      · rw [if_neg hp]; split
        · simp; omega
        · exact ih

theorem edges_ready {md : Region.Mode} {o : Oper} {listed : Array Bool} (h : md = .any) : (∀ e ∈ o.after, Region.binds md e = true → listed.getD e.on false = true) ↔ ∀ d ∈ edgesOf o, listed.getD d false = true := by
  subst h
  unfold edgesOf
  constructor
  · intro h d hd
    simp only [List.mem_map, List.mem_filter, Array.mem_toList_iff] at hd
    obtain ⟨e, ⟨h1, h2⟩, rfl⟩ := hd
    exact h e h1 h2
  · intro h e h1 h2
    exact h e.on (by simp only [List.mem_map, List.mem_filter, Array.mem_toList_iff]; exact ⟨e, ⟨h1, h2⟩, rfl⟩)

theorem draw_any {B N : Nat} {ops : Array Oper} {items : List DItem} (hch : Chain P N ops items) (hall : ∀ i o, ops[i]? = some o → ∃ (p : Nat) (it : DItem), items[p]? = some it ∧ it.i = i) {Γ : Fns} (hΓ : FnsOk P B Γ) {K0 : Env → AS → Prop} {ρ0 : Env} {S0 : AS} {μ0 : Mu} {w0 : World} {d0 : List Deferred} {Q : Exit → Act → World → Prop}
    (hQ : ∀ ρ' S' μ' w' a', K0 ρ' S' → Rel B μ' S' w' → ERel μ' N ρ' a' → Fr S0 S' μ0 μ' w0 w' → a'.defers = d0 → Q .normal a' w') :
    ∀ (fuel : Nat) (listed : Array Bool) (a : Act) (w : World) (tr : Tr) (f : Nat) (μ : Mu), listed.size = ops.size → ((List.range ops.size).filter fun i => !listed.getD i true).length ≤ fuel →
      (∀ i o, ops[i]? = some o → listed.getD i false = true → ∀ d ∈ edgesOf o, listed.getD d false = true) → a.defers = d0 →
      Inv Γ K0 B N items (fun i => listed.getD i false) ρ0 S0 μ0 w0 a w tr f μ → wpAny P .any ops Q fuel listed a w := by
  have hidx : ∀ (p : Nat) (it : DItem), items[p]? = some it → ∃ o, ops[it.i]? = some o ∧ ∀ d ∈ edgesOf o, ∃ (q : Nat) (x : DItem), q < p ∧ items[q]? = some x ∧ x.i = d := by
    intro p it hp
    obtain ⟨o, h1, h2, h3, h4⟩ := (hch.at hp).op
    refine ⟨o, h1, fun d hd => ?_⟩
    obtain ⟨x, hx, hxd⟩ := h3 d hd
    obtain ⟨q, hq⟩ := List.getElem?_of_mem hx
    have hqp : q < p := by
      rcases Nat.lt_or_ge q p with h5 | h5
      · exact h5
      · rw [List.getElem?_eq_none (by simp; omega)] at hq; cases hq
    rw [List.getElem?_take_of_lt hqp] at hq
    exact ⟨q, x, hqp, hq, hxd⟩
  have hdone : ∀ (listed : Array Bool) (a : Act) (w : World) (tr : Tr) (f : Nat) (μ : Mu), listed.size = ops.size → a.defers = d0 → Inv Γ K0 B N items (fun i => listed.getD i false) ρ0 S0 μ0 w0 a w tr f μ → Region.ready .any ops listed = [] → Q .normal a w := by
    intro listed a w tr f μ hsz hd inv hr
    have hl : ∀ (p : Nat) (it : DItem), items[p]? = some it → listed.getD it.i false = true := by
      intro p
      induction p using Nat.strongRecOn with
      | _ p ih =>
        intro it hp
        obtain ⟨o, h1, h2⟩ := hidx p it hp
        cases hh : listed.getD it.i false with
        | true => rfl
        | false =>
          exfalso
          have : it.i ∈ Region.ready .any ops listed := by
            rw [mem_ready]
            have hlt : it.i < listed.size := by rw [hsz]; exact (Array.getElem?_eq_some_iff.1 h1).1
            refine ⟨?_, o, h1, (edges_ready rfl).2 fun d hd => ?_⟩
            · simp [hlt] at hh ⊢; exact hh
            · obtain ⟨q, x, k1, k2, k3⟩ := h2 d hd
              rw [← k3]; exact ih q k1 x k2
          rw [hr] at this; cases this
    have hf : f = items.length := by
      rcases Nat.lt_or_ge f items.length with h | h
      · have h1 : items[f]? = some items[f] := by simp [h]
        exact absurd (inv.good.lt f _ h1 (hl f _ h1)) (by omega)
      · have := inv.good.len; omega
    have hrest := inv.rest
    rw [hf, List.drop_length] at hrest
    simp only [List.map_nil, wpDops] at hrest
    rw [← hf] at hrest
    have hov : (⟨ov (lis items fun i => listed.getD i false) tr.S tr.up f, (tr.S f).nx⟩ : AS) = tr.S f := by
      have : ov (lis items fun i => listed.getD i false) tr.S tr.up f = (tr.S f).h := by
        funext id
        exact inv.good.vis (j := f) (Nat.le_refl _) (fun p x hp hx hn => by rw [hl p x hx] at hn; cases hn) (fun p h1 h2 => by omega)
      rw [this]
    have hrel := inv.mem.rel
    have hfr := inv.mem.fr
    rw [hov] at hrel hfr
    refine hQ _ _ μ w a hrest hrel ⟨inv.tms.size, fun t u hu => ?_⟩ hfr hd
    rcases inv.good.env (Nat.le_refl _) hu with ⟨p, it, h1, h2, h3, rfl⟩ | ⟨h1, h2⟩
    · exact inv.tms.t1 p it t h2 (hl p it h2) h3
    · refine inv.tms.t0 t u (fun p x hx _ => h1 p x ?_ hx) h2
      rw [hf]
      rcases Nat.lt_or_ge p items.length with h | h
      · exact h
      · rw [List.getElem?_eq_none h] at hx; cases hx
  intro fuel
  induction fuel with
  | zero =>
    intro listed a w tr f μ hsz hcnt hcl hd inv
    have hr : Region.ready .any ops listed = [] := by
      rw [List.eq_nil_iff_forall_not_mem]
      intro i hi
      rw [mem_ready] at hi
      obtain ⟨h1, o, ho, _⟩ := hi
      have : i ∈ (List.range ops.size).filter fun i => !listed.getD i true := by
        rw [List.mem_filter, List.mem_range]
        exact ⟨(Array.getElem?_eq_some_iff.1 ho).1, by rw [h1]; rfl⟩
      rw [List.eq_nil_of_length_eq_zero (Nat.le_zero.1 hcnt)] at this
      cases this
    exact ⟨hr, hdone listed a w tr f μ hsz hd inv hr⟩
  | succ fuel ih =>
    intro listed a w tr f μ hsz hcnt hcl hd inv
    refine ⟨fun hr => hdone listed a w tr f μ hsz hd inv hr, fun i hi => ?_⟩
    rw [mem_ready] at hi
    obtain ⟨h1, o, ho, hed⟩ := hi
    rw [edges_ready rfl] at hed
    obtain ⟨j, it, hj, hji⟩ := hall i o ho
    subst hji
    have hilt : it.i < listed.size := by rw [hsz]; exact (Array.getElem?_eq_some_iff.1 ho).1
    have hn : listed.getD it.i false = false := by simp [hilt] at h1 ⊢; exact h1
    have hoff : ∀ f, Off items (fun i => listed.getD i false) f j := fun f => hch.off (f := f) hcl hj hn (fun o' ho' => by rw [ho] at ho'; cases ho'; exact hed)
    -- the next array
    have hsz' : (listed.setIfInBounds it.i true).size = ops.size := by simp [hsz]
    have hL : (fun k => (listed.setIfInBounds it.i true).getD k false) = lst (fun k => listed.getD k false) it.i := by
      funext k
      simp only [lst]
      by_cases hk : it.i = k
      · subst hk; simp [hilt]
      · rw [getD_set_ne false hk]
        have : (k == it.i) = false := by simpa using Ne.symm hk
        simp [this]
    have hcnt' : ((List.range ops.size).filter fun k => !(listed.setIfInBounds it.i true).getD k true).length ≤ fuel := by
      have : ((List.range ops.size).filter fun k => !(listed.setIfInBounds it.i true).getD k true).length < ((List.range ops.size).filter fun k => !listed.getD k true).length := by
        refine filter_lt (fun x _ hx => ?_) ⟨it.i, by rw [List.mem_range, ← hsz]; exact hilt, by rw [h1]; rfl, by simp [hilt]⟩
        by_cases hk : it.i = x
        · subst hk; simp [hilt] at hx
        · rw [getD_set_ne true hk] at hx; exact hx
      omega
    have hcl' : ∀ k o', ops[k]? = some o' → (listed.setIfInBounds it.i true).getD k false = true → ∀ d ∈ edgesOf o', (listed.setIfInBounds it.i true).getD d false = true := by
      intro k o' hk hkl d hd'
      by_cases hki : it.i = k
      · subst hki; rw [ho] at hk; cases hk; exact getD_set_true (hed d hd')
      · rw [getD_set_ne false hki] at hkl; exact getD_set_true (hcl k o' hk hkl d hd')
    obtain ⟨tr, f, inv, hhead⟩ := wp_advance (items.length - f) f tr (by have := inv.good.len; omega) inv
    by_cases hjf : j < f
    · refine exec_op hch inv.good inv.mem inv.tms hj hjf hn (hoff f) (fun a' w' μ' g' m' t' hd' => ?_)
      refine ih _ a' w' tr f μ' hsz' hcnt' hcl' (hd'.trans hd) ?_
      rw [hL]
      exact ⟨g', m', t', inv.rest⟩
    · rcases hhead with hhead | ⟨x, hx, hxc, hxw⟩
      · exfalso
        rw [List.getElem?_eq_none (by omega)] at hj; cases hj
      · have hjf' : j = f := by
          rcases Nat.lt_or_ge f j with h5 | h5
          · have hnl : listed.getD x.i false = false := by
              cases hh : listed.getD x.i false with
              | false => rfl
              | true => exact absurd (inv.good.lt f x hx hh) (by omega)
            have := ((hoff f).before f x h5 hx hnl).1
            rw [hxc] at this; cases this
          · omega
        subst hjf'
        rw [hj] at hx; cases hx
        refine exec_call hch hΓ inv hj hxc hxw hn (hoff j) (fun a' w' tr' μ' inv' hd' => ?_)
        refine ih _ a' w' tr' (j + 1) μ' hsz' hcnt' hcl' (hd'.trans hd) ?_
        rw [hL]
        exact inv'

end Go.Ax

/- Code and functions, in both worlds. -/
namespace Go.Ax
variable {P : Program}

inductive Hint where
  | leaf
  | reg (live : List Nat) (perm : List (Nat × List Nat × List Nat))
  | two (a b : Hint)
  | one (a : Hint)

def cCode (P : Program) (N : Nat) : Hint → Code → Option ACode
  | _, .skip => some .skip
  | _, .label _ => some .skip
  | _, .exit id => some (.exit id)
  | _, .ret => some .ret
  | .reg live perm, .region _ ops draw =>
    if draw then match cDraw P N ops perm [] with
      | some items => if (List.range ops.size).all (fun i => items.any fun x => x.i == i) then some (.dreg live (items.map fun x => (x.ao, x.U))) else none
      | none => none
    else (cOps P N ops ops.toList).map (.reg live ·)
  | .two h k, .seq a b => match cCode P N h a, cCode P N k b with
    | some x, some y => some (.seq x y)
    | _, _ => none
  | .two h k, .cond c a b => match cCode P N h a, cCode P N k b with
    | some x, some y => if groundO c then some (.cond c x y) else none
    | _, _ => none
  | .one h, .block id b => (cCode P N h b).map (.block id ·)
  | .one h, .loop b => (cCode P N h b).map .loop
  | .one h, .scope b => cCode P N h b
  | _, _ => none

def AExit.to : AExit → Exit
  | .normal => .normal
  | .exit id => .exit id
  | .ret => .ret

theorem ERel.keep {μ : Mu} {N : Nat} {ρ : Env} {a : Act} (h : ERel μ N ρ a) (l : List Nat) : ERel μ N (keepE ρ l) a :=
  ⟨h.size, fun t v hv => h.get t v (keepE_mem hv).2⟩

/-- Where code has come to. -/
def After (B : Nat) (N : Nat) (μ : Mu) (S : AS) (a : Act) (w : World) (K : AExit → Env → AS → Prop) (Q : Exit → Act → World → Prop) : Prop :=
  ∀ x ρ' S' μ' w' a', K x ρ' S' → Rel B μ' S' w' → ERel μ' N ρ' a' → Fr S S' μ μ' w w' → a'.defers = a.defers → Q x.to a' w'

theorem After.go {B N : Nat} {μ μ' : Mu} {S S' : AS} {a a' : Act} {w w' : World} {K : AExit → Env → AS → Prop} {Q : Exit → Act → World → Prop} (h : After B N μ S a w K Q) (f : Fr S S' μ μ' w w') (hd : a'.defers = a.defers) : After B N μ' S' a' w' K Q :=
  fun x ρ' S2 μ2 w2 a2 k r e f2 d => h x ρ' S2 μ2 w2 a2 k r e (f.trans f2) (d.trans hd)

theorem cDraw_all {N : Nat} {ops : Array Oper} {perm : List (Nat × List Nat × List Nat)} {items : List DItem} (h : cDraw P N ops perm [] = some items) (hall : (List.range ops.size).all (fun i => items.any fun x => x.i == i) = true) :
    Chain P N ops items ∧ ∀ i o, ops[i]? = some o → ∃ (p : Nat) (it : DItem), items[p]? = some it ∧ it.i = i := by
  refine ⟨cDraw_chain .nil h, fun i o ho => ?_⟩
  have := List.all_eq_true.1 hall i (List.mem_range.2 (Array.getElem?_eq_some_iff.1 ho).1)
  simp only [List.any_eq_true, beq_iff_eq] at this
  obtain ⟨x, hx, hi⟩ := this
  obtain ⟨p, hp⟩ := List.getElem?_of_mem hx
  exact ⟨p, x, hp, hi⟩

theorem inv_start {Γ : Fns} {K0 : Env → AS → Prop} {B N : Nat} {items : List DItem} {ρ : Env} {S : AS} {μ : Mu} {w0 w : World} {a : Act} {sz : Nat} (r : Rel B μ S w) (f : Fr S S μ μ w0 w) (hb : Bnd μ S) (he : ERel μ N ρ a) (h : wpDops Γ (items.map fun x => (x.ao, x.U)) [] ρ S K0) :
    Inv Γ K0 B N items (fun i => (Array.replicate sz false).getD i false) ρ S μ w0 a w ⟨fun _ => ρ, fun _ => S, fun _ => undef, fun _ _ => false, fun _ => DRec.none⟩ 0 μ := by
  have hl : ∀ i, (Array.replicate sz false).getD i false = false := by
    intro i
    rw [Array.getD_eq_getD_getElem?, Array.getElem?_replicate]
    split <;> rfl
  have hbd : ∀ i p, μ i = some p → i < S.nx := by
    intro i p hm
    rcases Nat.lt_or_ge i S.nx with h5 | h5
    · exact h5
    · rw [hb i h5] at hm; cases hm
  refine ⟨⟨rfl, rfl, Nat.zero_le _, fun p it hp => by omega, fun p it _ h => (by rw [hl] at h; cases h), fun p hp id o ho => ?_⟩, ⟨r, f, fun id x hx => .inl (hbd id x hx)⟩, ⟨he.size, fun p it t _ h => (by rw [hl] at h; cases h), fun t u _ hu => he.get t u hu⟩, ?_⟩
  · obtain ⟨b, d, z, h1, _⟩ := r.obj id o ho
    exact hbd id _ h1
  · simpa [Tr.hist] using h

theorem wpC_sound {B : Nat} {Γ : Fns} (hP : P.follows .mixedOrders = true) (hΓ : FnsOk P B Γ) {N n : Nat} : ∀ (c : Code) (h : Hint) (ac : ACode), cCode P N h c = some ac → ∀ {μ : Mu} {S : AS} {w : World} {ρ : Env} {a : Act}, Rel B μ S w → Bnd μ S → ERel μ N ρ a →
    ∀ {K : AExit → Env → AS → Prop} {Q : Exit → Act → World → Prop}, wpC Γ n ac ρ S K → After B N μ S a w K Q → c.wp P Q a w := by
  intro c
  induction c with
  | skip =>
    intro h ac hc μ S w ρ a r hb he K Q hw hQ
    simp only [cCode, Option.some.injEq] at hc; subst hc
    exact wp_skip (hQ .normal ρ S μ w a hw r he (Fr.refl _ _ _) rfl)
  | label l =>
    intro h ac hc μ S w ρ a r hb he K Q hw hQ
    simp only [cCode, Option.some.injEq] at hc; subst hc
    exact wp_label (hQ .normal ρ S μ w a hw r he (Fr.refl _ _ _) rfl)
  | exit id =>
    intro h ac hc μ S w ρ a r hb he K Q hw hQ
    simp only [cCode, Option.some.injEq] at hc; subst hc
    exact wp_exit (hQ (.exit id) ρ S μ w a hw r he (Fr.refl _ _ _) rfl)
  | ret =>
    intro h ac hc μ S w ρ a r hb he K Q hw hQ
    simp only [cCode, Option.some.injEq] at hc; subst hc
    exact wp_ret (hQ .ret ρ S μ w a hw r he (Fr.refl _ _ _) rfl)
  | goto l => intro h ac hc; simp [cCode] at hc
  | refuse y => intro h ac hc; simp [cCode] at hc
  | rangeFunc f ps x y _ _ => intro h ac hc; simp [cCode] at hc
  | region id ops draw =>
    intro h ac hc μ S w ρ a r hb he K Q hw hQ
    cases h with
    | reg live perm =>
      simp only [cCode] at hc
      split at hc
      · rename_i hdraw
        split at hc
        · rename_i items hit
          split at hc
          · rename_i hall
            cases hc
            subst hdraw
            obtain ⟨hch, hal⟩ := cDraw_all hit hall
            simp only [wpC] at hw
            refine wp_region_any hP ?_
            refine draw_any hch hal hΓ (d0 := a.defers) (fun ρ' S' μ' w' a' k1 k2 k3 k4 k5 => ?_) ops.size (Array.replicate ops.size false) a _ _ 0 μ (by simp) ?_ ?_ rfl
              (inv_start (r.world rfl) (Fr.world (w := w) rfl rfl rfl rfl) hb he hw)
            · exact hQ .normal (keepE ρ' live) S' μ' w' a' k1 k2 (k3.keep live) k4 k5
            · refine Nat.le_trans (List.length_filter_le _ _) (by simp)
            · intro i o _ hl
              rw [Array.getD_eq_getD_getElem?, Array.getElem?_replicate] at hl
              split at hl <;> cases hl
          · cases hc
        · cases hc
      · rename_i hdraw
        obtain ⟨as, has, e⟩ := map_some hc
        cases e
        have hdraw : draw = false := by simpa using hdraw
        subst hdraw
        simp only [wpC] at hw
        refine wp_region_list (wpOps_sound hΓ has r hb he hw fun ρ' S' μ' w' a' k1 k2 k3 k4 k5 => ?_)
        exact hQ .normal (keepE ρ' live) S' μ' w' a' k1 k2 (k3.keep live) k4 k5
    | _ => simp [cCode] at hc
  | seq x y ihx ihy =>
    intro h ac hc μ S w ρ a r hb he K Q hw hQ
    cases h with
    | two h k =>
      simp only [cCode] at hc
      split at hc
      · rename_i ax ay hx hy
        cases hc
        simp only [wpC] at hw
        refine wp_seq (ihx h ax hx r hb he hw ?_)
        intro e ρ' S' μ' w' a' hk r' e' f' d'
        cases e with
        | normal => exact ihy k ay hy r' (f'.bnd hb) e' hk (hQ.go f' d')
        | exit id => exact hQ (.exit id) ρ' S' μ' w' a' hk r' e' f' d'
        | ret => exact hQ .ret ρ' S' μ' w' a' hk r' e' f' d'
      · cases hc
    | _ => simp [cCode] at hc
  | cond c x y ihx ihy =>
    intro h ac hc μ S w ρ a r hb he K Q hw hQ
    cases h with
    | two h k =>
      simp only [cCode] at hc
      split at hc
      · rename_i ax ay hx hy
        split at hc
        · rename_i hg
          cases hc
          simp only [wpC] at hw
          split at hw
          · rename_i t ht
            have hv := ev_sound he hg ht
            have hev : a.eval c = .bool t := by generalize a.eval c = u at hv; cases hv; rfl
            refine wp_cond hev ?_
            cases t with
            | true => exact ihx h ax hx r hb he hw hQ
            | false => exact ihy k ay hy r hb he hw hQ
          · exact hw.elim
        · cases hc
      · cases hc
    | _ => simp [cCode] at hc
  | block id x ih =>
    intro h ac hc μ S w ρ a r hb he K Q hw hQ
    cases h with
    | one h =>
      simp only [cCode] at hc
      obtain ⟨ax, hx, e⟩ := map_some hc
      cases e
      simp only [wpC] at hw
      refine wp_block (ih h ax hx r hb he hw ?_)
      intro e ρ' S' μ' w' a' hk r' e' f' d'
      cases e with
      | normal => exact hQ .normal ρ' S' μ' w' a' hk r' e' f' d'
      | exit i =>
        simp only [AExit.to, Exit.inBlock]
        simp only at hk
        split at hk
        · rename_i hi; rw [if_pos hi]; exact hQ .normal ρ' S' μ' w' a' hk r' e' f' d'
        · rename_i hi; rw [if_neg hi]; exact hQ (.exit i) ρ' S' μ' w' a' hk r' e' f' d'
      | ret => exact hQ .ret ρ' S' μ' w' a' hk r' e' f' d'
    | _ => simp [cCode] at hc
  | loop x ih =>
    intro h ac hc μ S w ρ a r hb he K Q hw hQ
    cases h with
    | one h =>
      simp only [cCode] at hc
      obtain ⟨ax, hx, e⟩ := map_some hc
      cases e
      simp only [wpC] at hw
      have key : ∀ k {μ : Mu} {S : AS} {w : World} {ρ : Env} {a : Act}, Rel B μ S w → Bnd μ S → ERel μ N ρ a → wpLoop (wpC Γ n ax) k ρ S K → After B N μ S a w K Q → Code.rounds P x Q k a w := by
        intro k
        induction k with
        | zero => intro μ S w ρ a _ _ _ hw; exact hw.elim
        | succ k ihk =>
          intro μ S w ρ a r hb he hw hQ
          simp only [wpLoop] at hw
          rw [rounds_succ]
          refine ih h ax hx r hb he hw ?_
          intro e ρ' S' μ' w' a' hk r' e' f' d'
          cases e with
          | normal => exact ihk r' (f'.bnd hb) e' hk (hQ.go f' d')
          | exit id => exact hQ (.exit id) ρ' S' μ' w' a' hk r' e' f' d'
          | ret => exact hQ .ret ρ' S' μ' w' a' hk r' e' f' d'
      exact wp_loop_rounds n (key n r hb he hw hQ)
    | _ => simp [cCode] at hc
  | scope x ih =>
    intro h ac hc μ S w ρ a r hb he K Q hw hQ
    cases h with
    | one h =>
      simp only [cCode] at hc
      refine wp_scope_straight (ih h ac hc r hb he hw ?_)
      intro e ρ' S' μ' w' a' hk r' e' f' d'
      cases e with
      | normal => exact hQ .normal ρ' S' μ' w' a' hk r' e' f' d'
      | exit id => exact hQ (.exit id) ρ' S' μ' w' a' hk r' e' f' d'
      | ret => exact hQ .ret ρ' S' μ' w' a' hk r' e' f' d'
    | _ => simp [cCode] at hc

end Go.Ax

/- Functions, in both worlds. -/
namespace Go.Ax
variable {P : Program}

def cRes (P : Program) : ResultVar → Option ARes
  | .tmp t => some (.tmp t)
  | .cell a t => (aggN P t).map (.cell a ·)

def cRess (P : Program) : List ResultVar → Option (List ARes)
  | [] => some []
  | r :: rs => match cRes P r, cRess P rs with
    | some x, some xs => some (x :: xs)
    | _, _ => none

def resOne (tmps : Array Value) : ResultVar → Sem Value
  | .tmp t => pure (tmps.getD t undef)
  | .cell a t => do loadVar t (← asAddr (tmps.getD a undef))

theorem results_eq (fn : Func) (tmps : Array Value) : results fn tmps = (do let vs ← fn.results.mapM (resOne tmps); pure (if h : vs.size = 1 then vs[0] else .tuple vs)) := rfl

theorem resOne_sound {B : Nat} {μ : Mu} {S : AS} {w : World} {N : Nat} {ρ : Env} {a : Act} (r : Rel B μ S w) (he : ERel μ N ρ a) {x : ResultVar} {y : ARes} (hc : cRes P x = some y) {v : Value} (hv : resV ρ S y = some v) :
    ∃ v', (resOne a.tmps x).run P w = .ok v' w ∧ VRel μ v v' := by
  cases x with
  | tmp t =>
    simp only [cRes, Option.some.injEq] at hc; subst hc
    exact ⟨_, rfl, he.get t v hv⟩
  | cell t ty =>
    simp only [cRes] at hc
    obtain ⟨n, hn, e⟩ := map_some hc
    subst e
    simp only [resV] at hv
    split at hv
    · rename_i b o hx
      have hxr := he.get t _ hx
      generalize hxe : a.tmps.getD t undef = xe at hxr
      cases hxr with
      | @ptr _ _ bb d z hm =>
        split at hv
        · rename_i cs hcs
          obtain ⟨c, e, fz, h1, h2, h3, h4⟩ := getCells_sound r hm hcs
          obtain ⟨v', k1, k2⟩ := run_loadVarN (P := P) hn h1 h2 h4 h3 hv
          exact ⟨v', by simp only [resOne, hxe, asAddr, pure_bind]; exact k1, k2⟩
        · cases hv
    · cases hv

theorem resL_sound {B : Nat} {μ : Mu} {S : AS} {w : World} {N : Nat} {ρ : Env} {a : Act} (r : Rel B μ S w) (he : ERel μ N ρ a) : ∀ {xs : List ResultVar} {ys : List ARes}, cRess P xs = some ys → ∀ {vs : List Value}, resVs ρ S ys = some vs →
    ∃ vs', (xs.mapM (resOne a.tmps)).run P w = .ok vs' w ∧ LRel μ vs vs'
  | [], ys, hc, vs, hv => by
    simp only [cRess, Option.some.injEq] at hc; subst hc
    simp only [resVs, Option.some.injEq] at hv; subst hv
    exact ⟨[], by simp, .nil⟩
  | x :: xs, ys, hc, vs, hv => by
    simp only [cRess] at hc
    split at hc
    · rename_i y ys' h1 h2
      cases hc
      simp only [resVs] at hv
      split at hv
      · rename_i v vs' h3 h4
        cases hv
        obtain ⟨u, k1, k2⟩ := resOne_sound r he h1 h3
        obtain ⟨us, k3, k4⟩ := resL_sound r he h2 h4
        exact ⟨u :: us, by simp [List.mapM_cons, k1, k3], .cons k2 k4⟩
      · cases hv
    · cases hc

theorem results_sound {B : Nat} {μ : Mu} {S : AS} {w : World} {N : Nat} {ρ : Env} {a : Act} (r : Rel B μ S w) (he : ERel μ N ρ a) {fn : Func} {ys : List ARes} (hc : cRess P fn.results.toList = some ys) {v : Value} (hv : result ρ S ys = some v) :
    ∃ v', (results fn a.tmps).run P w = .ok v' w ∧ VRel μ v v' := by
  rw [results_eq, Array.mapM_eq_mapM_toList]
  unfold result at hv
  have fin : ∀ vs, resVs ρ S ys = some vs → ∃ vs', (fn.results.toList.mapM (resOne a.tmps)).run P w = .ok vs' w ∧ LRel μ vs vs' := fun vs h => resL_sound r he hc h
  split at hv
  · rename_i u hu
    cases hv
    obtain ⟨vs', h1, h2⟩ := fin _ hu
    cases h2 with | cons h3 h4 => cases h4; exact ⟨_, by simp [h1], h3⟩
  · rename_i vs hne hvs
    cases hv
    obtain ⟨vs', h1, h2⟩ := fin _ hvs
    have hl := h2.length
    refine ⟨.tuple vs'.toArray, ?_, .tuple (by simpa using h2)⟩
    have hne1 : vs'.length ≠ 1 := by
      intro e
      rw [e] at hl
      match vs, hl with
      | [u], _ => exact hne u rfl
    simp [h1, hne1]
  · cases hv

/-- A function's text, read. -/
def FunOk (P : Program) (f : FuncId) (af : AFun) : Prop :=
  ∃ fn c h N, P.funcs[f]? = some fn ∧ (fn.name == "runtime.NumGoroutine") = false ∧ fn.body = some c ∧ cCode P N h c = some af.body ∧ N ≤ fn.ntmps ∧ cRess P fn.results.toList = some af.res

def XOk (P : Program) (X : Nat → List Value → Option Value) : Prop :=
  ∀ f args v, X f args = some v → Callable P f ∧ ∀ (μ : Mu) (args' : Array Value), LRel μ args args'.toList → ∀ w, Calls P f args' w fun e w' => ∃ v', e = .returned v' ∧ VRel μ v v' ∧ RowKit.Below w.heap.size w w'

theorem argsE_look {vs : List Value} : ∀ {k t : Nat} {v : Value}, look (argsE k vs) t = some v → ∃ i, t = k + i ∧ vs[i]? = some v := by
  induction vs with
  | nil => intro k t v h; simp [argsE, look] at h
  | cons x vs ih =>
    intro k t v h
    simp only [argsE, look] at h
    split at h
    · rename_i e; cases h; exact ⟨0, by omega, rfl⟩
    · obtain ⟨i, h1, h2⟩ := ih h; exact ⟨i + 1, by omega, by simpa using h2⟩

theorem Rel.below {B : Nat} {μ : Mu} {S : AS} {w w' : World} (r : Rel B μ S w) (h : RowKit.Below w.heap.size w w') : Rel B μ S w' ∧ Fr S S μ μ w w' :=
  ⟨⟨fun i o hi => by obtain ⟨b, d, z, h1, h2, h3⟩ := r.obj i o hi; exact ⟨b, d, z, h1, h2.same (h.block b (r.mu i _ h1)), h3⟩, r.inj, fun i p hm => Nat.lt_of_lt_of_le (r.mu i p hm) h.size, Nat.le_trans r.size h.size⟩,
   ⟨h.os, h.tape, h.output, h.size, Sub.refl _, Nat.le_refl _, fun i p h1 h2 => (by rw [h1] at h2; cases h2), fun _ _ h _ => h, fun b hb _ => h.block b hb, fun i o p h1 h2 h3 _ => ⟨i, o, p, h1, h2, h3, rfl⟩⟩⟩

theorem wpF_sound {B : Nat} {G : Nat → Option AFun} {X : Nat → List Value → Option Value} (hP : P.follows .mixedOrders = true) (hG : ∀ f af, G f = some af → FunOk P f af) (hX : XOk P X) : ∀ k, FnsOk P B (wpF G X k)
  | 0 => fun f args S Q h => h.elim
  | k + 1 => fun f args S Q h => by
    unfold wpF at h
    split at h
    · rename_i af haf
      obtain ⟨fn, c, hh, N, h1, h2, h3, h4, h5, h6⟩ := hG f af haf
      refine ⟨⟨fn, h1, h2, by rw [h3]; rfl⟩, fun μ w args' r hb ha => ?_⟩
      refine calls_of_wp h1 h3 ?_
      have he : ERel μ N (argsE 0 args) { tmps := args' ++ Array.replicate (fn.ntmps - args'.size) undef, defers := [] } := by
        refine ⟨by simp; omega, fun t v hv => ?_⟩
        obtain ⟨i, e, hi⟩ := argsE_look hv
        rw [Nat.zero_add] at e; subst e
        obtain ⟨v', k1, k2⟩ := ha.get hi
        have hlt : t < args'.size := by
          rcases Nat.lt_or_ge t args'.size with h | h
          · exact h
          · rw [List.getElem?_eq_none (by simpa using h)] at k1; cases k1
        have : (args' ++ Array.replicate (fn.ntmps - args'.size) undef).getD t undef = v' := by
          rw [Array.getD_eq_getD_getElem?, Array.getElem?_append_left hlt]
          rw [Array.getElem?_toList] at k1
          rw [k1]; rfl
        rw [this]; exact k2
      refine wpC_sound hP (wpF_sound hP hG hX k) c hh af.body h4 r hb he h ?_
      intro x ρ' S' μ' w' a' hk r' e' f' d'
      have fin : (match result ρ' S' af.res with | some v => Q v S' | none => False) → a'.defers = [] ∧ ∃ v, (results fn a'.tmps).run P w' = .ok v w' ∧ CallQ B μ S w Q (.returned v) w' := by
        intro hk
        split at hk
        · rename_i v hv
          obtain ⟨v', k1, k2⟩ := results_sound r' e' h6 hv
          exact ⟨d', v', k1, v, v', μ', S', rfl, hk, k2, r', f'⟩
        · exact hk.elim
      cases x with
      | exit id => exact hk.elim
      | normal => exact fin hk
      | ret => exact fin hk
    · split at h
      · rename_i v hv
        obtain ⟨h1, h2⟩ := hX f args v hv
        refine ⟨h1, fun μ w args' r hb ha => (h2 μ args' ha w).mono ?_⟩
        rintro e w' ⟨v', rfl, hv', hb'⟩
        obtain ⟨r', f'⟩ := r.below hb'
        exact ⟨v, v', μ, S, rfl, h, hv', r', f'⟩
      · exact h.elim

end Go.Ax

/- From a run of the resolved code to the program's calls. -/
namespace Go.Ax
variable {P : Program}

def S0 : AS := ⟨fun _ => none, 0⟩

theorem rel_empty (w : World) : Rel w.heap.size (fun _ => none) S0 w :=
  ⟨fun i o h => by simp [S0] at h, fun i j o o' p q h => by simp [S0] at h, fun i p h => by simp at h, Nat.le_refl _⟩

/-- A run that starts with no memory in sight. -/
theorem calls_of_run {G : Nat → Option AFun} {X : Nat → List Value → Option Value} (hP : P.follows .mixedOrders = true) (hG : ∀ f af, G f = some af → FunOk P f af) (hX : XOk P X) {k f : Nat} {args : List Value} {b : Bool}
    (h : wpF G X k f args S0 fun v _ => v = .bool b) {args' : Array Value} (ha : LRel (fun _ => none) args args'.toList) (w : World) :
    Calls P f args' w fun e w' => e = .returned (.bool b) ∧ RowKit.Below w.heap.size w w' := by
  obtain ⟨_, h2⟩ := wpF_sound (B := w.heap.size) hP hG hX k f args S0 _ h
  refine (h2 (fun _ => none) w args' (rel_empty w) (fun _ _ => rfl) ha).mono ?_
  rintro e w' ⟨v, v', μ', S', rfl, rfl, hv, hr, hf⟩
  cases hv
  exact ⟨rfl, hf.below (rel_empty w)⟩

/-- A closed run, told as known. -/
theorem xok_of_run {G : Nat → Option AFun} {X : Nat → List Value → Option Value} (hP : P.follows .mixedOrders = true) (hG : ∀ f af, G f = some af → FunOk P f af) (hX : XOk P X) {k f : Nat} {b : Bool}
    (h : wpF G X k f [] S0 fun v _ => v = .bool b) : XOk P fun f' args => if f' = f ∧ args.isEmpty then some (.bool b) else none := by
  intro f' args v hv
  simp only at hv
  split at hv
  · rename_i hc
    obtain ⟨rfl, hc⟩ := hc
    cases hv
    simp only [List.isEmpty_iff] at hc
    subst hc
    refine ⟨(wpF_sound (B := 0) hP hG hX k _ _ _ _ h).1, fun μ args' ha w => ?_⟩
    have : args'.toList = [] := by generalize args'.toList = l at ha; cases ha; rfl
    refine (calls_of_run hP hG hX h (by rw [this]; exact .nil) w).mono ?_
    rintro e w' ⟨rfl, hb⟩
    exact ⟨_, rfl, .bool b, hb⟩
  · cases hv

end Go.Ax

/- Reasoning without fuel: what some fuel brings about. -/
namespace Go.Ax

def LeF (Γ Γ' : Fns) : Prop := ∀ f a S Q Q', (∀ v S, Q v S → Q' v S) → Γ f a S Q → Γ' f a S Q'

theorem wpNext_mono {it : Value} {b : Bool} {S : AS} {K K' : Value → AS → Prop} (h : ∀ v S, K v S → K' v S) (hw : wpNext it b S K) : wpNext it b S K' := by
  unfold wpNext at *
  split at hw
  · split at hw
    · split at hw
      · rename_i hc; rw [if_pos hc]; exact h _ _ hw
      · rename_i hc; rw [if_neg hc]; exact h _ _ hw
    · exact h _ _ hw
    · split at hw
      · obtain ⟨h1, h2, h3⟩ := hw; exact ⟨h1, fun hh => h _ _ (h2 hh), fun e he hs => h _ _ (h3 e he hs)⟩
      · exact hw
    · exact hw
  · exact hw

theorem wpOp_mono {Γ Γ' : Fns} (hΓ : LeF Γ Γ') {o : AOp} {ρ : Env} {S : AS} {K K' : Value → AS → Prop} (h : ∀ v S, K v S → K' v S) (hw : wpOp Γ o ρ S K) : wpOp Γ' o ρ S K' := by
  have hplain : (match step o ρ S with | some (v, S') => K v S' | none => False) → (match step o ρ S with | some (v, S') => K' v S' | none => False) := by
    intro hw
    split at hw
    · exact h _ _ hw
    · exact hw
  cases o with
  | call f args =>
    simp only [wpOp] at *
    split at hw
    · exact hΓ _ _ _ _ _ h hw
    · exact hw
  | next it b =>
    simp only [wpOp] at *
    split at hw
    · exact wpNext_mono h hw
    · exact hw
  | _ => exact hplain hw

theorem wpOps_mono {Γ Γ' : Fns} (hΓ : LeF Γ Γ') {K K' : Env → AS → Prop} (h : ∀ ρ S, K ρ S → K' ρ S) : ∀ {l : List AOper} {ρ : Env} {S : AS}, wpOps Γ l ρ S K → wpOps Γ' l ρ S K'
  | [], _, _, hw => h _ _ hw
  | o :: r, ρ, S, hw => by
    simp only [wpOps] at *
    split at hw
    · exact hw
    · exact wpOps_mono hΓ h hw
    · exact wpOp_mono hΓ (fun v S' hh => wpOps_mono hΓ h hh) hw

theorem wpDops_mono {Γ Γ' : Fns} (hΓ : LeF Γ Γ') {K K' : Env → AS → Prop} (h : ∀ ρ S, K ρ S → K' ρ S) : ∀ {l : List (AOper × List Nat)} {hist : List DRec} {ρ : Env} {S : AS}, wpDops Γ l hist ρ S K → wpDops Γ' l hist ρ S K'
  | [], _, _, _, hw => h _ _ hw
  | (o, U) :: r, hist, ρ, S, hw => by
    simp only [wpDops] at *
    split at hw
    · exact hw
    · exact wpDops_mono hΓ h hw
    · split at hw
      · rename_i hc; rw [if_pos hc]; exact wpOp_mono hΓ (fun v S' hh => wpDops_mono hΓ h hh) hw
      · rename_i hc
        rw [if_neg hc]
        split at hw
        · split at hw
          · rename_i hp; rw [if_pos hp]; exact wpDops_mono hΓ h hw
          · exact hw.elim
        · exact hw

theorem wpLoop_mono {b b' : Env → AS → (AExit → Env → AS → Prop) → Prop} (hb : ∀ ρ S K K', (∀ x ρ S, K x ρ S → K' x ρ S) → b ρ S K → b' ρ S K') {K K' : AExit → Env → AS → Prop} (h : ∀ x ρ S, K x ρ S → K' x ρ S) : ∀ {n n' : Nat} {ρ : Env} {S : AS}, n ≤ n' → wpLoop b n ρ S K → wpLoop b' n' ρ S K'
  | 0, _, _, _, _, hw => hw.elim
  | n + 1, 0, _, _, hn, _ => by omega
  | n + 1, n' + 1, ρ, S, hn, hw => by
    simp only [wpLoop] at *
    refine hb _ _ _ _ (fun x ρ' S' hh => ?_) hw
    cases x with
    | normal => exact wpLoop_mono hb h (by omega) hh
    | exit id => exact h _ _ _ hh
    | ret => exact h _ _ _ hh

theorem wpC_mono {Γ Γ' : Fns} (hΓ : LeF Γ Γ') {n n' : Nat} (hn : n ≤ n') : ∀ {c : ACode} {ρ : Env} {S : AS} {K K' : AExit → Env → AS → Prop}, (∀ x ρ S, K x ρ S → K' x ρ S) → wpC Γ n c ρ S K → wpC Γ' n' c ρ S K' := by
  intro c
  induction c with
  | skip => intro ρ S K K' h hw; exact h _ _ _ hw
  | reg live ops => intro ρ S K K' h hw; exact wpOps_mono hΓ (fun _ _ hh => h _ _ _ hh) hw
  | dreg live ops => intro ρ S K K' h hw; exact wpDops_mono hΓ (fun _ _ hh => h _ _ _ hh) hw
  | seq a b iha ihb =>
    intro ρ S K K' h hw
    simp only [wpC] at *
    refine iha (fun x ρ' S' hh => ?_) hw
    cases x with
    | normal => exact ihb h hh
    | exit id => exact h _ _ _ hh
    | ret => exact h _ _ _ hh
  | cond c a b iha ihb =>
    intro ρ S K K' h hw
    simp only [wpC] at *
    split at hw
    · split at hw
      · rename_i ht; rw [if_pos ht]; exact iha h hw
      · rename_i ht; rw [if_neg ht]; exact ihb h hw
    · exact hw
  | block id b ih =>
    intro ρ S K K' h hw
    simp only [wpC] at *
    refine ih (fun x ρ' S' hh => ?_) hw
    cases x with
    | normal => exact h _ _ _ hh
    | exit i =>
      simp only at hh ⊢
      split at hh
      · rename_i hi; rw [if_pos hi]; exact h _ _ _ hh
      · rename_i hi; rw [if_neg hi]; exact h _ _ _ hh
    | ret => exact h _ _ _ hh
  | loop b ih =>
    intro ρ S K K' h hw
    simp only [wpC] at *
    exact wpLoop_mono (b := wpC Γ n b) (b' := wpC Γ' n' b) (fun ρ S K K' h hw => ih h hw) h hn hw
  | exit id => intro ρ S K K' h hw; exact h _ _ _ hw
  | ret => intro ρ S K K' h hw; exact h _ _ _ hw

/-- What is said of a function's end. -/
def post (af : AFun) (Q : Value → AS → Prop) (x : AExit) (ρ : Env) (S : AS) : Prop :=
  match x with
  | .exit _ => False
  | _ => match result ρ S af.res with
    | some v => Q v S
    | none => False

theorem post_mono {af : AFun} {Q Q' : Value → AS → Prop} (h : ∀ v S, Q v S → Q' v S) {x : AExit} {ρ : Env} {S : AS} (hp : post af Q x ρ S) : post af Q' x ρ S := by
  cases x <;> simp only [post] at * <;> (split at hp <;> first | exact h _ _ hp | exact hp)

theorem wpF_succ (G : Nat → Option AFun) (X : Nat → List Value → Option Value) (k f : Nat) (args : List Value) (S : AS) (Q : Value → AS → Prop) : wpF G X (k + 1) f args S Q = (match G f with
    | some af => wpC (wpF G X k) k af.body (argsE 0 args) S (post af Q)
    | none => match X f args with
      | some v => Q v S
      | none => False) := rfl

theorem wpF_mono (G : Nat → Option AFun) (X : Nat → List Value → Option Value) : ∀ {k k' : Nat}, k ≤ k' → LeF (wpF G X k) (wpF G X k')
  | 0, _, _ => fun f a S Q Q' _ hw => hw.elim
  | k + 1, 0, h => by omega
  | k + 1, k' + 1, h => fun f a S Q Q' hq hw => by
    rw [wpF_succ] at *
    split at hw
    · exact wpC_mono (wpF_mono G X (by omega)) (by omega) (fun x ρ S hp => post_mono hq hp) hw
    · split at hw
      · exact hq _ _ hw
      · exact hw

/-- What comes next, where code ends normally. -/
def thenK (N : Env → AS → Prop) (K : AExit → Env → AS → Prop) : AExit → Env → AS → Prop
  | .normal, ρ, S => N ρ S
  | .exit i, ρ, S => K (.exit i) ρ S
  | .ret, ρ, S => K .ret ρ S

/-- What comes behind a block. -/
def blockK (id : Nat) (K : AExit → Env → AS → Prop) : AExit → Env → AS → Prop
  | .normal, ρ, S => K .normal ρ S
  | .exit i, ρ, S => if i = id then K .normal ρ S else K (.exit i) ρ S
  | .ret, ρ, S => K .ret ρ S

theorem thenK_mono {N N' : Env → AS → Prop} {K K' : AExit → Env → AS → Prop} (hN : ∀ ρ S, N ρ S → N' ρ S) (h : ∀ x ρ S, K x ρ S → K' x ρ S) : ∀ x ρ S, thenK N K x ρ S → thenK N' K' x ρ S := by
  intro x ρ S hh
  cases x with
  | normal => exact hN _ _ hh
  | exit id => exact h _ _ _ hh
  | ret => exact h _ _ _ hh

theorem blockK_mono {id : Nat} {K K' : AExit → Env → AS → Prop} (h : ∀ x ρ S, K x ρ S → K' x ρ S) : ∀ x ρ S, blockK id K x ρ S → blockK id K' x ρ S := by
  intro x ρ S hh
  cases x with
  | normal => exact h _ _ _ hh
  | exit i =>
    simp only [blockK] at *
    split at hh
    · rename_i hi; rw [if_pos hi]; exact h _ _ _ hh
    · rename_i hi; rw [if_neg hi]; exact h _ _ _ hh
  | ret => exact h _ _ _ hh

/-- The same without a bound on rounds. -/
def wpE (Γ : Fns) : ACode → Env → AS → (AExit → Env → AS → Prop) → Prop
  | .skip, ρ, S, Q => Q .normal ρ S
  | .reg live ops, ρ, S, Q => wpOps Γ ops ρ S fun ρ' S' => Q .normal (keepE ρ' live) S'
  | .dreg live ops, ρ, S, Q => wpDops Γ ops [] ρ S fun ρ' S' => Q .normal (keepE ρ' live) S'
  | .seq a b, ρ, S, Q => wpE Γ a ρ S (thenK (fun ρ' S' => wpE Γ b ρ' S' Q) Q)
  | .cond c a b, ρ, S, Q => match ev ρ c with
    | some (.bool t) => if t then wpE Γ a ρ S Q else wpE Γ b ρ S Q
    | _ => False
  | .block id b, ρ, S, Q => wpE Γ b ρ S (blockK id Q)
  | .loop b, ρ, S, Q => ∃ n, wpLoop (wpE Γ b) n ρ S Q
  | .exit id, ρ, S, Q => Q (.exit id) ρ S
  | .ret, ρ, S, Q => Q .ret ρ S

theorem wpE_mono {Γ Γ' : Fns} (hΓ : LeF Γ Γ') : ∀ {c : ACode} {ρ : Env} {S : AS} {K K' : AExit → Env → AS → Prop}, (∀ x ρ S, K x ρ S → K' x ρ S) → wpE Γ c ρ S K → wpE Γ' c ρ S K' := by
  intro c
  induction c with
  | skip => intro ρ S K K' h hw; exact h _ _ _ hw
  | reg live ops => intro ρ S K K' h hw; exact wpOps_mono hΓ (fun _ _ hh => h _ _ _ hh) hw
  | dreg live ops => intro ρ S K K' h hw; exact wpDops_mono hΓ (fun _ _ hh => h _ _ _ hh) hw
  | seq a b iha ihb =>
    intro ρ S K K' h hw
    simp only [wpE] at *
    exact iha (thenK_mono (fun ρ S hh => ihb h hh) h) hw
  | cond c a b iha ihb =>
    intro ρ S K K' h hw
    simp only [wpE] at *
    split at hw
    · split at hw
      · rename_i ht; rw [if_pos ht]; exact iha h hw
      · rename_i ht; rw [if_neg ht]; exact ihb h hw
    · exact hw
  | block id b ih =>
    intro ρ S K K' h hw
    simp only [wpE] at *
    exact ih (blockK_mono h) hw
  | loop b ih =>
    intro ρ S K K' h hw
    simp only [wpE] at *
    obtain ⟨n, hw⟩ := hw
    exact ⟨n, wpLoop_mono (b := wpE Γ b) (b' := wpE Γ' b) (fun ρ S K K' h hw => ih h hw) h (Nat.le_refl _) hw⟩
  | exit id => intro ρ S K K' h hw; exact h _ _ _ hw
  | ret => intro ρ S K K' h hw; exact h _ _ _ hw

theorem wpC_wpE {Γ : Fns} (hΓ : LeF Γ Γ) {n : Nat} : ∀ {c : ACode} {ρ : Env} {S : AS} {K : AExit → Env → AS → Prop}, wpC Γ n c ρ S K → wpE Γ c ρ S K := by
  intro c
  induction c with
  | skip => intro ρ S K hw; exact hw
  | reg live ops => intro ρ S K hw; exact hw
  | dreg live ops => intro ρ S K hw; exact hw
  | seq a b iha ihb =>
    intro ρ S K hw
    simp only [wpC, wpE] at *
    refine wpE_mono hΓ (fun x ρ' S' hh => ?_) (iha hw)
    cases x with
    | normal => exact ihb hh
    | exit id => exact hh
    | ret => exact hh
  | cond c a b iha ihb =>
    intro ρ S K hw
    simp only [wpC, wpE] at *
    split at hw
    · rename_i t heq
      rw [heq]
      simp only
      split at hw
      · rename_i ht; rw [if_pos ht]; exact iha hw
      · rename_i ht; rw [if_neg ht]; exact ihb hw
    · exact hw.elim
  | block id b ih =>
    intro ρ S K hw
    simp only [wpC, wpE] at *
    exact wpE_mono hΓ (fun x ρ' S' hh => by cases x <;> exact hh) (ih hw)
  | loop b ih =>
    intro ρ S K hw
    simp only [wpC, wpE] at *
    exact ⟨n, wpLoop_mono (b := wpC Γ n b) (b' := wpE Γ b) (fun ρ S K K' h hw => wpE_mono hΓ h (ih hw)) (fun _ _ _ h => h) (Nat.le_refl _) hw⟩
  | exit id => intro ρ S K hw; exact hw
  | ret => intro ρ S K hw; exact hw

/-- Only so much fuel is wanted at each way. -/
def Cpt (Γ : Fns) (Γ' : Nat → Fns) : Prop := ∀ f a S (Q : Nat → Value → AS → Prop), (∀ k k' v S, k ≤ k' → Q k v S → Q k' v S) → Γ f a S (fun v S => ∃ k, Q k v S) → ∃ k, Γ' k f a S (Q k)

theorem all_bound {α : Type} {p : α → Nat → Prop} (hm : ∀ x k k', k ≤ k' → p x k → p x k') : ∀ (l : List α), (∀ x ∈ l, ∃ k, p x k) → ∃ k, ∀ x ∈ l, p x k
  | [], _ => ⟨0, fun x h => by simp at h⟩
  | x :: l, h => by
    obtain ⟨k1, h1⟩ := h x (by simp)
    obtain ⟨k2, h2⟩ := all_bound hm l (fun y hy => h y (by simp [hy]))
    refine ⟨max k1 k2, fun y hy => ?_⟩
    rcases List.mem_cons.1 hy with rfl | hy
    · exact hm _ _ _ (Nat.le_max_left _ _) h1
    · exact hm _ _ _ (Nat.le_max_right _ _) (h2 y hy)

theorem wpNext_cpt {it : Value} {b : Bool} {S : AS} {K : Nat → Value → AS → Prop} (hK : ∀ k k' v S, k ≤ k' → K k v S → K k' v S) (hw : wpNext it b S (fun v S => ∃ k, K k v S)) : ∃ k, wpNext it b S (K k) := by
  unfold wpNext at *
  split at hw
  · split at hw
    · split at hw
      · rename_i hc; obtain ⟨k, hk⟩ := hw; exact ⟨k, by rw [if_pos hc]; exact hk⟩
      · rename_i hc; obtain ⟨k, hk⟩ := hw; exact ⟨k, by rw [if_neg hc]; exact hk⟩
    · exact hw
    · split at hw
      · rename_i m since seen last _ _ es clock _
        obtain ⟨h1, h2, h3⟩ := hw
        have hk2 : ∃ k, (((es.filter fun e => !seen.contains e.born).filter (·.born < since)) = [] → K k (.tuple #[.bool false]) S) := by
          by_cases hh : ((es.filter fun e => !seen.contains e.born).filter (·.born < since)) = []
          · obtain ⟨k, hk⟩ := h2 hh; exact ⟨k, fun _ => hk⟩
          · exact ⟨0, fun h => absurd h hh⟩
        obtain ⟨k2, hk2⟩ := hk2
        obtain ⟨k3, hk3⟩ := all_bound (p := fun e k => seen.contains e.born = false → K k (.tuple #[.bool true, e.key, e.val]) (S.set _ (some (.mapIter (some m) since (seen ++ [e.born]) clock))))
          (fun x k k' hle (h : seen.contains x.born = false → _) hs => hK _ _ _ _ hle (h hs)) es (fun e he => by
            by_cases hs : seen.contains e.born = false
            · obtain ⟨k, hk⟩ := h3 e he hs; exact ⟨k, fun _ => hk⟩
            · exact ⟨0, fun h => absurd h hs⟩)
        exact ⟨max k2 k3, h1, fun hh => hK _ _ _ _ (Nat.le_max_left _ _) (hk2 hh), fun e he hs => hK _ _ _ _ (Nat.le_max_right _ _) (hk3 e he hs)⟩
      · exact hw.elim
    · exact hw.elim
  · exact hw.elim

theorem wpOp_cpt {Γ : Fns} {Γ' : Nat → Fns} (hc : Cpt Γ Γ') {o : AOp} {ρ : Env} {S : AS} {K : Nat → Value → AS → Prop} (hK : ∀ k k' v S, k ≤ k' → K k v S → K k' v S) (hw : wpOp Γ o ρ S (fun v S => ∃ k, K k v S)) : ∃ k, wpOp (Γ' k) o ρ S (K k) := by
  have hplain : (match step o ρ S with | some (v, S') => ∃ k, K k v S' | none => False) → ∃ k, (match step o ρ S with | some (v, S') => K k v S' | none => False) := by
    intro hw
    split at hw
    · exact hw
    · exact hw.elim
  cases o with
  | call f args =>
    simp only [wpOp] at *
    split at hw
    · exact hc _ _ _ _ hK hw
    · exact hw.elim
  | next it b =>
    simp only [wpOp] at *
    split at hw
    · exact wpNext_cpt hK hw
    · exact hw.elim
  | _ => exact hplain hw

theorem wpOps_cpt {Γ : Fns} {Γ' : Nat → Fns} (hc : Cpt Γ Γ') (hm : ∀ k k', k ≤ k' → LeF (Γ' k) (Γ' k')) (hΓ : LeF Γ Γ) {K : Nat → Env → AS → Prop} (hK : ∀ k k' ρ S, k ≤ k' → K k ρ S → K k' ρ S) : ∀ {l : List AOper} {ρ : Env} {S : AS}, wpOps Γ l ρ S (fun ρ S => ∃ k, K k ρ S) → ∃ k, wpOps (Γ' k) l ρ S (K k)
  | [], _, _, hw => hw
  | o :: r, ρ, S, hw => by
    simp only [wpOps] at *
    split at hw
    · exact hw.elim
    · exact wpOps_cpt hc hm hΓ hK hw
    · have h1 := wpOp_mono hΓ (fun v S' hh => wpOps_cpt hc hm hΓ hK hh) hw
      exact wpOp_cpt hc (fun k k' v S' hle hh => wpOps_mono (hm k k' hle) (fun ρ S h => hK _ _ _ _ hle h) hh) h1

theorem wpDops_cpt {Γ : Fns} {Γ' : Nat → Fns} (hc : Cpt Γ Γ') (hm : ∀ k k', k ≤ k' → LeF (Γ' k) (Γ' k')) (hΓ : LeF Γ Γ) {K : Nat → Env → AS → Prop} (hK : ∀ k k' ρ S, k ≤ k' → K k ρ S → K k' ρ S) : ∀ {l : List (AOper × List Nat)} {hist : List DRec} {ρ : Env} {S : AS}, wpDops Γ l hist ρ S (fun ρ S => ∃ k, K k ρ S) → ∃ k, wpDops (Γ' k) l hist ρ S (K k)
  | [], _, _, _, hw => hw
  | (o, U) :: r, hist, ρ, S, hw => by
    simp only [wpDops] at *
    split at hw
    · exact hw.elim
    · exact wpDops_cpt hc hm hΓ hK hw
    · split at hw
      · rename_i hcl
        simp only [if_pos hcl]
        have h1 := wpOp_mono hΓ (fun v S' hh => wpDops_cpt hc hm hΓ hK hh) hw
        exact wpOp_cpt hc (fun k k' v S' hle hh => wpDops_mono (hm k k' hle) (fun ρ S h => hK _ _ _ _ hle h) hh) h1
      · rename_i hcl
        simp only [if_neg hcl]
        split at hw
        · split at hw
          · rename_i hp; simp only [if_pos hp]; exact wpDops_cpt hc hm hΓ hK hw
          · exact hw.elim
        · exact hw.elim

theorem wpE_cpt {Γ : Fns} {Γ' : Nat → Fns} (hc : Cpt Γ Γ') (hm : ∀ k k', k ≤ k' → LeF (Γ' k) (Γ' k')) (hΓ : LeF Γ Γ) : ∀ {c : ACode} {ρ : Env} {S : AS} {K : Nat → AExit → Env → AS → Prop}, (∀ k k' x ρ S, k ≤ k' → K k x ρ S → K k' x ρ S) → wpE Γ c ρ S (fun x ρ S => ∃ k, K k x ρ S) → ∃ k, wpC (Γ' k) k c ρ S (K k) := by
  intro c
  induction c with
  | skip => intro ρ S K hK hw; exact hw
  | reg live ops => intro ρ S K hK hw; exact wpOps_cpt hc hm hΓ (K := fun k ρ S => K k .normal (keepE ρ live) S) (fun k k' ρ S hle h => hK _ _ _ _ _ hle h) hw
  | dreg live ops => intro ρ S K hK hw; exact wpDops_cpt hc hm hΓ (K := fun k ρ S => K k .normal (keepE ρ live) S) (fun k k' ρ S hle h => hK _ _ _ _ _ hle h) hw
  | seq a b iha ihb =>
    intro ρ S K hK hw
    simp only [wpE, wpC] at *
    have h1 : wpE Γ a ρ S fun x ρ' S' => ∃ k, thenK (fun ρ' S' => wpC (Γ' k) k b ρ' S' (K k)) (K k) x ρ' S' := by
      refine wpE_mono hΓ (fun x ρ' S' hh => ?_) hw
      cases x with
      | normal => exact ihb hK hh
      | exit id => exact hh
      | ret => exact hh
    obtain ⟨k, hk⟩ := iha (K := fun k => thenK (fun ρ' S' => wpC (Γ' k) k b ρ' S' (K k)) (K k)) (fun k k' x ρ' S' hle hh =>
      thenK_mono (fun ρ S h => wpC_mono (hm _ _ hle) hle (fun x ρ S h => hK _ _ _ _ _ hle h) h) (fun x ρ S h => hK _ _ _ _ _ hle h) x ρ' S' hh) h1
    refine ⟨k, wpC_mono (hm k k (Nat.le_refl _)) (Nat.le_refl _) (fun x ρ' S' hh => ?_) hk⟩
    cases x <;> exact hh
  | cond c a b iha ihb =>
    intro ρ S K hK hw
    simp only [wpE, wpC] at *
    split at hw
    · rename_i t heq
      rw [heq]
      simp only
      split at hw
      · rename_i ht; obtain ⟨k, hk⟩ := iha hK hw; exact ⟨k, by rw [if_pos ht]; exact hk⟩
      · rename_i ht; obtain ⟨k, hk⟩ := ihb hK hw; exact ⟨k, by rw [if_neg ht]; exact hk⟩
    · exact hw.elim
  | block id b ih =>
    intro ρ S K hK hw
    simp only [wpE, wpC] at *
    have h1 : wpE Γ b ρ S fun x ρ' S' => ∃ k, blockK id (K k) x ρ' S' := by
      refine wpE_mono hΓ (fun x ρ' S' hh => ?_) hw
      cases x with
      | normal => exact hh
      | exit i =>
        simp only [blockK] at hh ⊢
        split at hh
        · rename_i hi; obtain ⟨k, hk⟩ := hh; exact ⟨k, by rw [if_pos hi]; exact hk⟩
        · rename_i hi; obtain ⟨k, hk⟩ := hh; exact ⟨k, by rw [if_neg hi]; exact hk⟩
      | ret => exact hh
    obtain ⟨k, hk⟩ := ih (K := fun k => blockK id (K k)) (fun k k' x ρ' S' hle hh => blockK_mono (fun x ρ S h => hK _ _ _ _ _ hle h) x ρ' S' hh) h1
    refine ⟨k, wpC_mono (hm k k (Nat.le_refl _)) (Nat.le_refl _) (fun x ρ' S' hh => ?_) hk⟩
    cases x <;> exact hh
  | loop b ih =>
    intro ρ S K hK hw
    simp only [wpE, wpC] at *
    obtain ⟨n, hw⟩ := hw
    have key : ∀ n {ρ : Env} {S : AS}, wpLoop (wpE Γ b) n ρ S (fun x ρ S => ∃ k, K k x ρ S) → ∃ k, wpLoop (wpC (Γ' k) k b) k ρ S (K k) := by
      intro n
      induction n with
      | zero => intro ρ S hw; exact hw.elim
      | succ n ihn =>
        intro ρ S hw
        simp only [wpLoop] at hw
        have h1 : wpE Γ b ρ S fun x ρ' S' => ∃ k, thenK (fun ρ' S' => wpLoop (wpC (Γ' k) k b) k ρ' S' (K k)) (K k) x ρ' S' := by
          refine wpE_mono hΓ (fun x ρ' S' hh => ?_) hw
          cases x with
          | normal => exact ihn hh
          | exit id => exact hh
          | ret => exact hh
        have hmono : ∀ k k' ρ' S', k ≤ k' → wpLoop (wpC (Γ' k) k b) k ρ' S' (K k) → wpLoop (wpC (Γ' k') k' b) k' ρ' S' (K k') := fun k k' ρ' S' hle hh =>
          wpLoop_mono (b := wpC (Γ' k) k b) (b' := wpC (Γ' k') k' b) (fun ρ S K K' h hw => wpC_mono (hm _ _ hle) hle h hw) (fun x ρ S h => hK _ _ _ _ _ hle h) hle hh
        obtain ⟨k, hk⟩ := ih (K := fun k => thenK (fun ρ' S' => wpLoop (wpC (Γ' k) k b) k ρ' S' (K k)) (K k)) (fun k k' x ρ' S' hle hh =>
          thenK_mono (fun ρ S h => hmono k k' ρ S hle h) (fun x ρ S h => hK _ _ _ _ _ hle h) x ρ' S' hh) h1
        refine ⟨k + 1, ?_⟩
        simp only [wpLoop]
        refine wpC_mono (hm k (k + 1) (by omega)) (by omega) (fun x ρ' S' hh => ?_) hk
        cases x with
        | normal => exact wpLoop_mono (b := wpC (Γ' k) k b) (b' := wpC (Γ' (k + 1)) (k + 1) b) (fun ρ S K K' h hw => wpC_mono (hm _ _ (by omega)) (by omega) h hw) (fun x ρ S h => hK _ _ _ _ _ (by omega) h) (Nat.le_refl k) hh
        | exit id => exact hK _ _ _ _ _ (by omega) hh
        | ret => exact hK _ _ _ _ _ (by omega) hh
    exact key n hw
  | exit id => intro ρ S K hK hw; exact hw
  | ret => intro ρ S K hK hw; exact hw

/-- Some fuel brings it about. -/
def Ev (G : Nat → Option AFun) (X : Nat → List Value → Option Value) : Fns := fun f a S Q => ∃ k, wpF G X k f a S Q

theorem Ev.mono (G : Nat → Option AFun) (X : Nat → List Value → Option Value) : LeF (Ev G X) (Ev G X) :=
  fun f a S Q Q' hq ⟨k, hw⟩ => ⟨k, wpF_mono G X (Nat.le_refl _) f a S Q Q' hq hw⟩

theorem wpF_cpt (G : Nat → Option AFun) (X : Nat → List Value → Option Value) : ∀ j, Cpt (wpF G X j) (wpF G X)
  | 0 => fun f a S Q _ hw => hw.elim
  | j + 1 => fun f a S Q hQ hw => by
    rw [wpF_succ] at hw
    split at hw
    · rename_i af haf
      have hG : LeF (wpF G X j) (wpF G X j) := wpF_mono G X (Nat.le_refl _)
      have h1 : wpE (wpF G X j) af.body (argsE 0 a) S fun x ρ S => ∃ k, post af (Q k) x ρ S := by
        refine wpE_mono hG (fun x ρ S hp => ?_) (wpC_wpE hG hw)
        cases x with
        | exit id => exact hp.elim
        | normal =>
          simp only [post] at hp ⊢
          split at hp
          · exact hp
          · exact hp.elim
        | ret =>
          simp only [post] at hp ⊢
          split at hp
          · exact hp
          · exact hp.elim
      obtain ⟨k, hk⟩ := wpE_cpt (wpF_cpt G X j) (fun k k' h => wpF_mono G X h) hG (K := fun k => post af (Q k)) (fun k k' x ρ S hle hp => post_mono (fun v S h => hQ _ _ _ _ hle h) hp) h1
      refine ⟨k + 1, ?_⟩
      rw [wpF_succ, haf]
      exact wpC_mono (wpF_mono G X (Nat.le_refl _)) (Nat.le_refl _) (fun x ρ S hp => post_mono (fun v S h => hQ _ _ _ _ (by omega) h) hp) hk
    · rename_i haf
      split at hw
      · rename_i v hv
        obtain ⟨k, hk⟩ := hw
        refine ⟨k + 1, ?_⟩
        rw [wpF_succ, haf]
        simp only [hv]
        exact hQ _ _ _ _ (by omega) hk
      · exact hw.elim

theorem Ev.cpt (G : Nat → Option AFun) (X : Nat → List Value → Option Value) : Cpt (Ev G X) (wpF G X) :=
  fun f a S Q hQ ⟨j, hw⟩ => wpF_cpt G X j f a S Q hQ hw

/-- A function's end, out of its text. -/
theorem Ev.fn {G : Nat → Option AFun} {X : Nat → List Value → Option Value} {f : Nat} {af : AFun} (haf : G f = some af) {a : List Value} {S : AS} {Q : Value → AS → Prop} (h : wpE (Ev G X) af.body (argsE 0 a) S (post af Q)) : Ev G X f a S Q := by
  obtain ⟨k, hk⟩ := wpE_cpt (Ev.cpt G X) (fun k k' h => wpF_mono G X h) (Ev.mono G X) (K := fun _ => post af Q) (fun _ _ _ _ _ _ h => h) (wpE_mono (Ev.mono G X) (fun x ρ S h => ⟨0, h⟩) h)
  exact ⟨k + 1, by rw [wpF_succ, haf]; exact hk⟩

theorem Ev.known {G : Nat → Option AFun} {X : Nat → List Value → Option Value} {f : Nat} (haf : G f = none) {a : List Value} {v : Value} (hv : X f a = some v) {S : AS} {Q : Value → AS → Prop} (h : Q v S) : Ev G X f a S Q :=
  ⟨1, by rw [wpF_succ, haf]; simp only [hv]; exact h⟩

/-- A loop, by what stands at its head: a ghost, which falls. -/
theorem wpE_loop {Γ : Fns} (hΓ : LeF Γ Γ) {b : ACode} {α : Type} (I : α → Env → AS → Prop) (m : α → Nat) {K : AExit → Env → AS → Prop}
    (hb : ∀ a ρ S, I a ρ S → wpE Γ b ρ S (thenK (fun ρ' S' => ∃ a', m a' < m a ∧ I a' ρ' S') K)) {a : α} {ρ : Env} {S : AS} (h0 : I a ρ S) : wpE Γ (.loop b) ρ S K := by
  have key : ∀ N a ρ S, m a < N → I a ρ S → wpLoop (wpE Γ b) N ρ S K := by
    intro N
    induction N with
    | zero => intro a ρ S h; omega
    | succ N ih =>
      intro a ρ S hm hI
      simp only [wpLoop]
      refine wpE_mono hΓ (fun x ρ' S' hh => ?_) (hb a ρ S hI)
      cases x with
      | normal => obtain ⟨a', h1, h2⟩ := hh; exact ih a' ρ' S' (by omega) h2
      | exit id => exact hh
      | ret => exact hh
  exact ⟨m a + 1, key _ a ρ S (Nat.lt_succ_self _) h0⟩

end Go.Ax

/- Rules to walk resolved code by hand. -/
namespace Go.Ax

def run1 (o : AOper) (ρ : Env) (S : AS) : Option (Env × AS) :=
  match wantA ρ o.guard with
  | none => none
  | some false => some (putE ρ o.dst undef, S)
  | some true => match step o.op ρ S with
    | some (v, S') => some (putE ρ o.dst v, S')
    | none => none

def runOps : List AOper → Env → AS → Option (Env × AS)
  | [], ρ, S => some (ρ, S)
  | o :: r, ρ, S => match run1 o ρ S with
    | some (ρ', S') => runOps r ρ' S'
    | none => none

theorem wpOp_step {Γ : Fns} {o : AOp} {ρ : Env} {S S' : AS} {v : Value} (h : step o ρ S = some (v, S')) {K : Value → AS → Prop} (hk : K v S') : wpOp Γ o ρ S K := by
  cases o with
  | call f args => simp only [step] at h; cases h
  | next it b => simp only [step] at h; cases h
  | _ => simp only [wpOp]; rw [h]; exact hk

theorem wpOps_run {Γ : Fns} {Q : Env → AS → Prop} : ∀ {l : List AOper} {ρ : Env} {S : AS} {ρ' : Env} {S' : AS}, runOps l ρ S = some (ρ', S') → ∀ {l2 : List AOper}, wpOps Γ l2 ρ' S' Q → wpOps Γ (l ++ l2) ρ S Q
  | [], ρ, S, ρ', S', h, l2, hq => by simp only [runOps, Option.some.injEq, Prod.mk.injEq] at h; obtain ⟨rfl, rfl⟩ := h; exact hq
  | o :: r, ρ, S, ρ', S', h, l2, hq => by
    simp only [runOps] at h
    split at h
    · rename_i ρ1 S1 h1
      unfold run1 at h1
      simp only [List.cons_append, wpOps]
      split at h1
      · cases h1
      · rename_i hw; cases h1; rw [hw]; exact wpOps_run h hq
      · rename_i hw
        rw [hw]
        split at h1
        · rename_i v S2 hs
          cases h1
          exact wpOp_step hs (wpOps_run h hq)
        · cases h1
    · cases h

/-- The same for a region whose order is open. -/
def run1d (o : AOper) (U : List Nat) (hist : List DRec) (ρ : Env) (S : AS) : Option (List DRec × Env × AS) :=
  match wantA ρ o.guard with
  | none => none
  | some false => some (hist ++ [DRec.none], putE ρ o.dst undef, S)
  | some true => match step o.op ρ S with
    | some (v, S') => if (recs hist U).all (okPair (idsE ρ o.op.mems) o.op.isWrite) = true then some (hist ++ [⟨o.op.isWrite, idsE ρ o.op.mems, S.nx, S'.nx⟩], putE ρ o.dst v, S') else none
    | none => none

def runDops : List (AOper × List Nat) → List DRec → Env → AS → Option (List DRec × Env × AS)
  | [], hist, ρ, S => some (hist, ρ, S)
  | (o, U) :: r, hist, ρ, S => match run1d o U hist ρ S with
    | some (hist', ρ', S') => runDops r hist' ρ' S'
    | none => none

theorem step_nocall {o : AOp} {ρ : Env} {S S' : AS} {v : Value} (h : step o ρ S = some (v, S')) : o.isCall = false := by
  cases o <;> first | rfl | (simp only [step] at h; cases h)

theorem wpDops_run {Γ : Fns} {Q : Env → AS → Prop} : ∀ {l : List (AOper × List Nat)} {hist : List DRec} {ρ : Env} {S : AS} {hist' : List DRec} {ρ' : Env} {S' : AS}, runDops l hist ρ S = some (hist', ρ', S') → ∀ {l2 : List (AOper × List Nat)}, wpDops Γ l2 hist' ρ' S' Q → wpDops Γ (l ++ l2) hist ρ S Q
  | [], hist, ρ, S, hist', ρ', S', h, l2, hq => by simp only [runDops, Option.some.injEq, Prod.mk.injEq] at h; obtain ⟨rfl, rfl, rfl⟩ := h; exact hq
  | (o, U) :: r, hist, ρ, S, hist', ρ', S', h, l2, hq => by
    simp only [runDops] at h
    split at h
    · rename_i hi1 ρ1 S1 h1
      unfold run1d at h1
      simp only [List.cons_append, wpDops]
      split at h1
      · cases h1
      · rename_i hw; cases h1; rw [hw]; exact wpDops_run h hq
      · rename_i hw
        rw [hw]
        split at h1
        · rename_i v S2 hs
          split at h1
          · rename_i hp
            cases h1
            simp only
            rw [step_nocall hs]
            simp only [Bool.false_eq_true, if_false]
            rw [hs]
            simp only
            rw [if_pos hp]
            exact wpDops_run h hq
          · cases h1
        · cases h1
    · cases h

section rules
variable {Γ : Fns} {ρ ρ' ρ2 : Env} {S S' : AS} {Q : AExit → Env → AS → Prop} {a b c : ACode} {live : List Nat} {ops : List AOper}

theorem go_assoc (h : wpE Γ (.seq a (.seq b c)) ρ S Q) (hΓ : LeF Γ Γ) : wpE Γ (.seq (.seq a b) c) ρ S Q := by
  simp only [wpE] at *
  refine wpE_mono hΓ (fun x ρ S hh => ?_) h
  cases x <;> exact hh

theorem go_skip (h : wpE Γ b ρ S Q) : wpE Γ (.seq .skip b) ρ S Q := h
theorem go_fin (h : Q .normal ρ S) : wpE Γ .skip ρ S Q := h
theorem go_exit {i : Nat} (h : Q (.exit i) ρ S) : wpE Γ (.seq (.exit i) b) ρ S Q := h
theorem go_ret (h : Q .ret ρ S) : wpE Γ (.seq .ret b) ρ S Q := h
theorem go_ret0 (h : Q .ret ρ S) : wpE Γ .ret ρ S Q := h
theorem go_exit0 {i : Nat} (h : Q (.exit i) ρ S) : wpE Γ (.exit i) ρ S Q := h
theorem go_end (h : wpE Γ (.seq a .skip) ρ S Q) (hΓ : LeF Γ Γ) : wpE Γ a ρ S Q := by
  simp only [wpE] at h
  refine wpE_mono hΓ (fun x ρ S hh => ?_) h
  cases x <;> exact hh

theorem go_reg (h : runOps ops ρ S = some (ρ', S')) (hk : keepE ρ' live = ρ2) (hq : wpE Γ b ρ2 S' Q) : wpE Γ (.seq (.reg live ops) b) ρ S Q := by
  have := wpOps_run (Γ := Γ) h (l2 := []) (Q := fun ρ' S' => thenK (fun ρ' S' => wpE Γ b ρ' S' Q) Q .normal (keepE ρ' live) S') (by simp only [wpOps]; rw [hk]; exact hq)
  rw [List.append_nil] at this
  exact this

theorem go_dreg {ops : List (AOper × List Nat)} {hist : List DRec} (h : runDops ops [] ρ S = some (hist, ρ', S')) (hk : keepE ρ' live = ρ2) (hq : wpE Γ b ρ2 S' Q) : wpE Γ (.seq (.dreg live ops) b) ρ S Q := by
  have := wpDops_run (Γ := Γ) h (l2 := []) (Q := fun ρ' S' => thenK (fun ρ' S' => wpE Γ b ρ' S' Q) Q .normal (keepE ρ' live) S') (by simp only [wpDops]; rw [hk]; exact hq)
  rw [List.append_nil] at this
  exact this

/-- A region, up to a call. -/
theorem go_call {pre : List AOper} {o : AOper} {rest : List AOper} {f : Operand} {args : List Operand} {id : FuncId} {first cap : Array Value} {vs : List Value} (ho : o.op = .call f args)
    (h : runOps pre ρ S = some (ρ', S')) (hw : wantA ρ' o.guard = some true) (hf : ev ρ' f = some (.func (.func id) first cap)) (hv : evs ρ' args = some vs)
    (hq : Γ id (first.toList ++ vs ++ cap.toList) S' fun v S'' => wpE Γ (.seq (.reg live rest) b) (putE ρ' o.dst v) S'' Q) : wpE Γ (.seq (.reg live (pre ++ o :: rest)) b) ρ S Q := by
  refine wpOps_run (Γ := Γ) h (l2 := o :: rest) ?_
  simp only [wpOps]
  rw [hw]
  simp only
  rw [ho]
  simp only [wpOp, hf, hv]
  exact hq

theorem go_cond {o : Operand} {t : Bool} (h : ev ρ o = some (.bool t)) (h1 : t = true → wpE Γ (.seq a c) ρ S Q) (h2 : t = false → wpE Γ (.seq b c) ρ S Q) : wpE Γ (.seq (.cond o a b) c) ρ S Q := by
  simp only [wpE, h]
  cases t with
  | true => exact h1 rfl
  | false => exact h2 rfl

theorem go_block {id : Nat} (h : wpE Γ a ρ S (blockK id (thenK (fun ρ' S' => wpE Γ b ρ' S' Q) Q))) : wpE Γ (.seq (.block id a) b) ρ S Q := h

theorem go_loop (hΓ : LeF Γ Γ) {α : Type} (I : α → Env → AS → Prop) (m : α → Nat) (g : α) (h0 : I g ρ S)
    (hb : ∀ g ρ S, I g ρ S → wpE Γ a ρ S (thenK (fun ρ' S' => ∃ g', m g' < m g ∧ I g' ρ' S') (thenK (fun ρ' S' => wpE Γ b ρ' S' Q) Q))) : wpE Γ (.seq (.loop a) b) ρ S Q :=
  wpE_loop hΓ I m hb h0
end rules

/-- A region without calls: what is kept of it. -/
def runK (live : List Nat) (ops : List AOper) (ρ : Env) (S : AS) : Option (Env × AS) := match runOps ops ρ S with
  | some (ρ', S') => some (keepE ρ' live, S')
  | none => none

theorem go_k {Γ : Fns} {ρ ρ' : Env} {S S' : AS} {Q : AExit → Env → AS → Prop} {b : ACode} {live : List Nat} {ops : List AOper} (r : Option (Env × AS)) (h : runK live ops ρ S = r) (hr : r = some (ρ', S')) (hq : wpE Γ b ρ' S' Q) : wpE Γ (.seq (.reg live ops) b) ρ S Q := by
  subst hr
  unfold runK at h
  split at h
  · rename_i ρ1 S1 h1
    cases h
    exact go_reg h1 rfl hq
  · cases h

/-- The first operations of a region, up to a call. -/
def runN : Nat → List AOper → Env → AS → Option (Env × AS × List AOper)
  | 0, l, ρ, S => some (ρ, S, l)
  | _ + 1, [], _, _ => none
  | k + 1, o :: r, ρ, S => match run1 o ρ S with
    | some (ρ', S') => runN k r ρ' S'
    | none => none

theorem runN_spec : ∀ {k : Nat} {l : List AOper} {ρ ρ' : Env} {S S' : AS} {r : List AOper}, runN k l ρ S = some (ρ', S', r) → ∃ pre, l = pre ++ r ∧ runOps pre ρ S = some (ρ', S')
  | 0, l, ρ, ρ', S, S', r, h => by simp only [runN, Option.some.injEq, Prod.mk.injEq] at h; obtain ⟨rfl, rfl, rfl⟩ := h; exact ⟨[], rfl, rfl⟩
  | k + 1, [], ρ, ρ', S, S', r, h => by simp [runN] at h
  | k + 1, o :: l, ρ, ρ', S, S', r, h => by
    simp only [runN] at h
    split at h
    · rename_i ρ1 S1 h1
      obtain ⟨pre, rfl, h2⟩ := runN_spec h
      exact ⟨o :: pre, rfl, by simp only [runOps, h1, h2]⟩
    · cases h

theorem go_callN {Γ : Fns} {ρ ρ' : Env} {S S' : AS} {Q : AExit → Env → AS → Prop} {b : ACode} {live : List Nat} {ops : List AOper} (k : Nat) (r : Option (Env × AS × List AOper)) {o : AOper} {rest : List AOper} {f : Operand} {args : List Operand} {id : FuncId} {first cap : Array Value} {vs : List Value}
    (h : runN k ops ρ S = r) (hr : r = some (ρ', S', o :: rest)) (ho : o.op = .call f args) (hw : wantA ρ' o.guard = some true) (hf : ev ρ' f = some (.func (.func id) first cap)) (hv : evs ρ' args = some vs)
    (hq : Γ id (first.toList ++ vs ++ cap.toList) S' fun v S'' => wpE Γ (.seq (.reg live rest) b) (putE ρ' o.dst v) S'' Q) : wpE Γ (.seq (.reg live ops) b) ρ S Q := by
  subst hr
  obtain ⟨pre, rfl, h2⟩ := runN_spec h
  exact go_call ho h2 hw hf hv hq

theorem bq_t (b : Bool) : (b == true) = b := by cases b <;> rfl
theorem bq_f (b : Bool) : (b == false) = !b := by cases b <;> rfl

/-- A region whose order is open, without calls. -/
def runDK (live : List Nat) (ops : List (AOper × List Nat)) (ρ : Env) (S : AS) : Option (Env × AS) := match runDops ops [] ρ S with
  | some (_, ρ', S') => some (keepE ρ' live, S')
  | none => none

theorem go_dk {Γ : Fns} {ρ ρ' : Env} {S S' : AS} {Q : AExit → Env → AS → Prop} {b : ACode} {live : List Nat} {ops : List (AOper × List Nat)} (r : Option (Env × AS)) (h : runDK live ops ρ S = r) (hr : r = some (ρ', S')) (hq : wpE Γ b ρ' S' Q) : wpE Γ (.seq (.dreg live ops) b) ρ S Q := by
  subst hr
  unfold runDK at h
  split at h
  · rename_i h0 ρ1 S1 h1
    cases h
    exact go_dreg h1 rfl hq
  · cases h

/-- The first operations of a region whose order is open, up to a call. -/
def runDN : Nat → List (AOper × List Nat) → List DRec → Env → AS → Option (List DRec × Env × AS × List (AOper × List Nat))
  | 0, l, hist, ρ, S => some (hist, ρ, S, l)
  | _ + 1, [], _, _, _ => none
  | k + 1, (o, U) :: r, hist, ρ, S => match run1d o U hist ρ S with
    | some (hist', ρ', S') => runDN k r hist' ρ' S'
    | none => none

theorem runDN_spec : ∀ {k : Nat} {l : List (AOper × List Nat)} {hist hist' : List DRec} {ρ ρ' : Env} {S S' : AS} {r : List (AOper × List Nat)}, runDN k l hist ρ S = some (hist', ρ', S', r) → ∃ pre, l = pre ++ r ∧ runDops pre hist ρ S = some (hist', ρ', S')
  | 0, l, hist, hist', ρ, ρ', S, S', r, h => by simp only [runDN, Option.some.injEq, Prod.mk.injEq] at h; obtain ⟨rfl, rfl, rfl, rfl⟩ := h; exact ⟨[], rfl, rfl⟩
  | k + 1, [], hist, hist', ρ, ρ', S, S', r, h => by simp [runDN] at h
  | k + 1, (o, U) :: l, hist, hist', ρ, ρ', S, S', r, h => by
    simp only [runDN] at h
    split at h
    · rename_i h0 ρ1 S1 h1
      obtain ⟨pre, rfl, h2⟩ := runDN_spec h
      exact ⟨(o, U) :: pre, rfl, by simp only [runDops, h1, h2]⟩
    · cases h

/-- What is left of a region whose order is open. -/
def wpD (Γ : Fns) (live : List Nat) (ops : List (AOper × List Nat)) (hist : List DRec) (ρ : Env) (S : AS) (b : ACode) (Q : AExit → Env → AS → Prop) : Prop :=
  wpDops Γ ops hist ρ S fun ρ' S' => wpE Γ b (keepE ρ' live) S' Q

theorem go_d {Γ : Fns} {ρ : Env} {S : AS} {Q : AExit → Env → AS → Prop} {b : ACode} {live : List Nat} {ops : List (AOper × List Nat)} (h : wpD Γ live ops [] ρ S b Q) : wpE Γ (.seq (.dreg live ops) b) ρ S Q := h

theorem go_dcall {Γ : Fns} {ρ ρ' : Env} {S S' : AS} {Q : AExit → Env → AS → Prop} {b : ACode} {live : List Nat} {ops : List (AOper × List Nat)} {hist hist' : List DRec} (k : Nat) (r : Option (List DRec × Env × AS × List (AOper × List Nat))) {o : AOper} {U : List Nat} {rest : List (AOper × List Nat)} {f : Operand} {args : List Operand} {id : FuncId} {first cap : Array Value} {vs : List Value}
    (h : runDN k ops hist ρ S = r) (hr : r = some (hist', ρ', S', (o, U) :: rest)) (ho : o.op = .call f args) (hw : wantA ρ' o.guard = some true) (hf : ev ρ' f = some (.func (.func id) first cap)) (hv : evs ρ' args = some vs)
    (hq : Γ id (first.toList ++ vs ++ cap.toList) (S'.hide (hidden S' (recs hist' U))) fun v S1 => wpD Γ live rest (hist' ++ [DRec.none]) (putE ρ' o.dst v) (S'.join (hidden S' (recs hist' U)) S1) b Q) : wpD Γ live ops hist ρ S b Q := by
  subst hr
  obtain ⟨pre, rfl, h2⟩ := runDN_spec h
  refine wpDops_run h2 ?_
  simp only [wpDops]
  rw [hw]
  simp only
  rw [if_pos (by rw [ho]; rfl), ho]
  simp only [wpOp, hf, hv]
  exact hq

/-- The rest of it, kept. -/
def runDT (live : List Nat) (ops : List (AOper × List Nat)) (hist : List DRec) (ρ : Env) (S : AS) : Option (Env × AS) := match runDops ops hist ρ S with
  | some (_, ρ', S') => some (keepE ρ' live, S')
  | none => none

theorem go_dt {Γ : Fns} {ρ ρ' : Env} {S S' : AS} {Q : AExit → Env → AS → Prop} {b : ACode} {live : List Nat} {ops : List (AOper × List Nat)} {hist : List DRec} (r : Option (Env × AS)) (h : runDT live ops hist ρ S = r) (hr : r = some (ρ', S')) (hq : wpE Γ b ρ' S' Q) : wpD Γ live ops hist ρ S b Q := by
  subst hr
  unfold runDT at h
  split at h
  · rename_i h0 ρ1 S1 h1
    cases h
    have := wpDops_run (Γ := Γ) h1 (l2 := []) (Q := fun ρ' S' => wpE Γ b (keepE ρ' live) S' Q) (by simp only [wpDops]; exact hq)
    rw [List.append_nil] at this
    exact this
  · cases h

theorem hide_h (S : AS) (hid : List Nat) (i : Nat) : (S.hide hid).h i = if hid.contains i then none else S.h i := rfl
theorem hide_nx (S : AS) (hid : List Nat) : (S.hide hid).nx = S.nx := rfl
theorem join_nx (S : AS) (hid : List Nat) (S1 : AS) : (S.join hid S1).nx = S1.nx := rfl

section ends
variable {ρ : Env} {S : AS} {N : Env → AS → Prop} {K : AExit → Env → AS → Prop} {i : Nat}
theorem n_then (h : N ρ S) : thenK N K .normal ρ S := h
theorem x_then (h : K (.exit i) ρ S) : thenK N K (.exit i) ρ S := h
theorem r_then (h : K .ret ρ S) : thenK N K .ret ρ S := h
theorem n_block (h : K .normal ρ S) : blockK i K .normal ρ S := h
theorem r_block (h : K .ret ρ S) : blockK i K .ret ρ S := h
theorem x_block (h : K .normal ρ S) : blockK i K (.exit i) ρ S := by simp only [blockK, if_true]; exact h
theorem x_block_ne {j : Nat} (h : K (.exit j) ρ S) (hj : j ≠ i) : blockK i K (.exit j) ρ S := by simp only [blockK, if_neg hj]; exact h
theorem r_post {af : AFun} {Q : Value → AS → Prop} {v : Value} (h : result ρ S af.res = some v) (hq : Q v S) : post af Q .ret ρ S := by simp only [post, h]; exact hq
theorem n_post {af : AFun} {Q : Value → AS → Prop} {v : Value} (h : result ρ S af.res = some v) (hq : Q v S) : post af Q .normal ρ S := by simp only [post, h]; exact hq
end ends

theorem wrap64 {k : Int} (h1 : -9223372036854775808 ≤ k) (h2 : k ≤ 9223372036854775807) : IntKind.wrap .i64 k = k := by
  unfold IntKind.wrap
  simp [IntKind.bits, IntKind.signed]
  omega

end Go.Ax

/- Slices that a program owns: what is in them, and what append, stores and loads do. -/
namespace Go.Ax

/-- What was there stays, but for these. -/
structure Keeps (S S' : AS) (own : List Nat) : Prop where
  nx : S.nx ≤ S'.nx
  h : ∀ i, i < S.nx → i ∉ own → S'.h i = S.h i

theorem Keeps.refl (S : AS) (own : List Nat) : Keeps S S own := ⟨Nat.le_refl _, fun _ _ _ => rfl⟩

theorem Keeps.trans {S S1 S2 : AS} {o1 o2 : List Nat} (h : Keeps S S1 o1) (k : Keeps S1 S2 o2) (hs : ∀ i ∈ o2, i ∈ o1 ∨ S.nx ≤ i) : Keeps S S2 o1 :=
  ⟨Nat.le_trans h.nx k.nx, fun i hi hn => by
    rw [k.h i (Nat.lt_of_lt_of_le hi h.nx) (fun hm => by rcases hs i hm with h1 | h1; exact hn h1; omega), h.h i hi hn]⟩

theorem Keeps.mono {S S' : AS} {o1 o2 : List Nat} (h : Keeps S S' o1) (hs : ∀ i ∈ o1, i ∈ o2 ∨ S.nx ≤ i) : Keeps S S' o2 :=
  ⟨h.nx, fun i hi hn => h.h i hi (fun hm => by rcases hs i hm with h1 | h1; exact hn h1; omega)⟩

theorem Keeps.new (S : AS) (o : AObj) (own : List Nat) : Keeps S (S.new o) own :=
  ⟨Nat.le_succ _, fun i hi _ => by simp only [AS.new]; rw [if_neg (by omega)]⟩

theorem Keeps.set (S : AS) (i : Nat) (o : Option AObj) : Keeps S (S.set i o) [i] :=
  ⟨Nat.le_refl _, fun j _ hn => by simp only [AS.set]; rw [if_neg (by simpa using hn)]⟩

/-- Ids that were owned, or are new. -/
def Grows (S S' : AS) (own own' : List Nat) : Prop := ∀ i ∈ own', i ∈ own ∨ (S.nx ≤ i ∧ i < S'.nx)

theorem set_h (S : AS) (i j : Nat) (o : Option AObj) : (S.set i o).h j = if j = i then o else S.h j := rfl
theorem new_h (S : AS) (j : Nat) (o : AObj) : (S.new o).h j = if j = S.nx then some o else S.h j := rfl
theorem set_nx (S : AS) (i : Nat) (o : Option AObj) : (S.set i o).nx = S.nx := rfl
theorem new_nx (S : AS) (o : AObj) : (S.new o).nx = S.nx + 1 := rfl

/-- A slice that is owned: its cells (len * esz of them), its block. -/
def SlO (S : AS) (esz : Nat) (v : Value) (cs : List Value) (own : List Nat) : Prop :=
  (v = .slice none 0 0 ∧ cs = [] ∧ own = []) ∨
  ∃ b len cap tail, v = .slice (some ⟨b, 0, some esz⟩) len cap ∧ own = [b] ∧ S.h b = some (.cells false (cs ++ tail)) ∧ cs.length = len * esz ∧ cap * esz ≤ (cs ++ tail).length ∧ len ≤ cap

theorem SlO.nil (S : AS) (esz : Nat) : SlO S esz (.slice none 0 0) [] [] := .inl ⟨rfl, rfl, rfl⟩

theorem SlO.frame {S S' : AS} {esz : Nat} {v : Value} {cs : List Value} {own : List Nat} (h : SlO S esz v cs own) (hk : ∀ i ∈ own, S'.h i = S.h i) : SlO S' esz v cs own := by
  rcases h with h | ⟨b, len, cap, tail, h1, h2, h3, h4⟩
  · exact .inl h
  · exact .inr ⟨b, len, cap, tail, h1, h2, by rw [hk b (by rw [h2]; simp), h3], h4⟩

theorem SlO.len {S : AS} {esz : Nat} {v : Value} {cs : List Value} {own : List Nat} (h : SlO S esz v cs own) : ∃ n, (∀ S', lenV .sl S' v = some (.int .i64 (n : Nat))) ∧ cs.length = n * esz ∧ srcLen v = n := by
  rcases h with ⟨rfl, rfl, rfl⟩ | ⟨b, len, cap, tail, rfl, _, _, h4, _⟩
  · exact ⟨0, fun _ => rfl, by simp, rfl⟩
  · exact ⟨len, fun _ => rfl, h4, rfl⟩

theorem SlO.src {S : AS} {esz : Nat} {v : Value} {cs : List Value} {own : List Nat} (h : SlO S esz v cs own) : srcCells S esz v = some cs := by
  rcases h with ⟨rfl, rfl, rfl⟩ | ⟨b, len, cap, tail, rfl, _, h3, h4, h5, _⟩
  · rfl
  · cases len with
    | zero =>
      have : cs = [] := List.eq_nil_of_length_eq_zero (by simpa using h4)
      subst this; rfl
    | succ n =>
      simp only [srcCells, getCells, h3]
      rw [if_pos (by simp; omega)]
      simp [← h4]

theorem srcLen_sl (a : Option Addr) (n c : Nat) : srcLen (.slice a n c) = n := rfl

/-- Appending. -/
theorem SlO.append {S : AS} {esz bytes : Nat} {v x : Value} {cs ns : List Value} {own : List Nat} (h : SlO S esz v cs own) (hx : srcCells S esz x = some ns) (hn : ns.length = srcLen x * esz) (hb : (srcLen v + srcLen x) * bytes ≤ 1099511627776) :
    ∃ v' S' own', appV esz bytes S v x = some (v', S') ∧ SlO S' esz v' (cs ++ ns) own' ∧ Keeps S S' own ∧ Grows S S' own own' ∧ srcLen v' = srcLen v + srcLen x := by
  rcases h with ⟨rfl, rfl, rfl⟩ | ⟨b, len, cap, tail, rfl, rfl, h3, h4, h5, h6⟩
  · rw [srcLen_sl, Nat.zero_add] at hb
    by_cases h0 : srcLen x = 0
    · refine ⟨.slice none 0 0, S, [], ?_, ?_, Keeps.refl _ _, fun i hi => by simp at hi, by rw [h0, srcLen_sl]⟩
      · simp only [appV, hx]; rw [if_pos (by omega), if_pos h0]
      · rw [h0] at hn
        have : ns = [] := List.eq_nil_of_length_eq_zero (by simpa using hn)
        subst this
        exact SlO.nil _ _
    · refine ⟨.slice (some ⟨S.nx, 0, some esz⟩) (0 + srcLen x) (0 + srcLen x), S.new (.cells false ([] ++ ns)), [S.nx], ?_, ?_, Keeps.new _ _ _, fun i hi => ?_, by rw [srcLen_sl, srcLen_sl]⟩
      · simp only [appV, hx]
        rw [if_neg (by omega), if_pos (by rw [Nat.zero_add]; exact hb)]
        rfl
      · exact .inr ⟨S.nx, 0 + srcLen x, 0 + srcLen x, [], rfl, rfl, by simp [AS.new], by simpa using hn, by simp [hn], Nat.le_refl _⟩
      · simp only [List.mem_singleton] at hi
        subst hi
        exact .inr ⟨Nat.le_refl _, by simp [AS.new]⟩
  · rw [srcLen_sl] at hb ⊢
    by_cases hc : len + srcLen x ≤ cap
    · by_cases h0 : srcLen x = 0
      · refine ⟨.slice (some ⟨b, 0, some esz⟩) len cap, S, [b], ?_, ?_, Keeps.refl _ _, fun i hi => .inl hi, by rw [h0, srcLen_sl]; rfl⟩
        · simp only [appV, hx]; rw [if_pos hc, if_pos h0]
        · rw [h0] at hn
          have : ns = [] := List.eq_nil_of_length_eq_zero (by simpa using hn)
          subst this
          rw [List.append_nil]
          exact .inr ⟨b, len, cap, tail, rfl, rfl, h3, h4, h5, h6⟩
      · have hle : (len + srcLen x) * esz ≤ cap * esz := Nat.mul_le_mul_right _ hc
        rw [Nat.add_mul] at hle
        have hl5 : cap * esz ≤ cs.length + tail.length := by simpa using h5
        refine ⟨.slice (some ⟨b, 0, some esz⟩) (len + srcLen x) cap, S.set b (some (.cells false ((cs ++ ns) ++ tail.drop ns.length))), [b], ?_, ?_, Keeps.set _ _ _, fun i hi => .inl hi, rfl⟩
        · simp only [appV, hx]
          rw [if_pos hc, if_neg h0]
          simp only [setCells, h3]
          rw [if_pos (by simp; omega)]
          simp only [Option.map_some, Nat.zero_add]
          have e1 : (cs ++ tail).take (len * esz) = cs := by rw [← h4]; simp
          have e2 : (cs ++ tail).drop (len * esz + ns.length) = tail.drop ns.length := by rw [← h4, List.drop_append]; simp
          rw [e1, e2]
        · refine .inr ⟨b, len + srcLen x, cap, tail.drop ns.length, rfl, rfl, by simp [AS.set], ?_, ?_, hc⟩
          · rw [List.length_append, h4, hn, Nat.add_mul]
          · simp; omega
    · have hs : srcCells S esz (.slice (some ⟨b, 0, some esz⟩) len cap) = some cs := SlO.src (own := [b]) (.inr ⟨b, len, cap, tail, rfl, rfl, h3, h4, h5, h6⟩)
      refine ⟨.slice (some ⟨S.nx, 0, some esz⟩) (len + srcLen x) (len + srcLen x), (S.set b none).new (.cells false (cs ++ ns)), [S.nx], ?_, ?_, ?_, fun i hi => ?_, rfl⟩
      · simp only [appV, hx]
        rw [if_neg hc, if_pos hb, hs]
        simp only [h3, if_true]
      · exact .inr ⟨S.nx, len + srcLen x, len + srcLen x, [], rfl, rfl, by simp [AS.new, AS.set], by rw [List.length_append, h4, hn, Nat.add_mul], by simp [h4, hn, Nat.add_mul], Nat.le_refl _⟩
      · refine ⟨Nat.le_succ _, fun i hi hni => ?_⟩
        have h1 : ¬ i = S.nx := by omega
        have h2 : ¬ i = b := by simpa using hni
        rw [new_h, if_neg (by exact h1), set_h, if_neg h2]
      · simp only [List.mem_singleton] at hi
        subst hi
        exact .inr ⟨Nat.le_refl _, by simp [AS.new, AS.set]⟩

/-- What a call that did not see all leaves. -/
theorem Keeps.join {S S1 : AS} {hid own : List Nat} (h : Keeps (S.hide hid) S1 own) : Keeps S (S.join hid S1) own := by
  refine ⟨h.nx, fun i hi hn => ?_⟩
  simp only [AS.join]
  split
  · rfl
  · rename_i hc
    rw [h.h i hi hn, hide_h, if_neg]
    intro hh
    exact hc (by rw [hh]; rfl)

theorem join_at {S S1 : AS} {hid : List Nat} {i : Nat} (h1 : i ∉ hid) (h2 : S.nx ≤ i ∨ S.roAt i = false) : (S.join hid S1).h i = S1.h i := by
  simp only [AS.join]
  rw [if_neg]
  intro hc
  simp only [Bool.or_eq_true, Bool.and_eq_true, decide_eq_true_eq] at hc
  rcases hc with hc | hc
  · exact h1 (by simpa using hc)
  · rcases h2 with h2 | h2
    · omega
    · rw [h2] at hc; simp at hc

end Go.Ax

/- Slices that can be read. -/
namespace Go.Ax

/-- A slice, and what is in its n elements of esz cells each. -/
def SlR (S : AS) (esz n : Nat) (v : Value) (cs : List Value) : Prop :=
  cs.length = n * esz ∧ ((n = 0 ∧ ∃ a c, v = .slice a 0 c) ∨
  ∃ b o q c ro cells, v = .slice (some ⟨b, o, q⟩) n c ∧ S.h b = some (.cells ro cells) ∧ o + n * esz ≤ cells.length ∧ (cells.drop o).take (n * esz) = cs ∧ b < S.nx)

theorem SlR.len {S : AS} {esz n : Nat} {v : Value} {cs : List Value} (h : SlR S esz n v cs) (S' : AS) : lenV .sl S' v = some (.int .i64 n) := by
  obtain ⟨_, ⟨rfl, a, c, rfl⟩ | ⟨b, o, q, c, ro, cells, rfl, _⟩⟩ := h <;> rfl

theorem SlR.srcLen {S : AS} {esz n : Nat} {v : Value} {cs : List Value} (h : SlR S esz n v cs) : srcLen v = n := by
  obtain ⟨_, ⟨rfl, a, c, rfl⟩ | ⟨b, o, q, c, ro, cells, rfl, _⟩⟩ := h <;> rfl

theorem SlR.src {S : AS} {esz n : Nat} {v : Value} {cs : List Value} (h : SlR S esz n v cs) : srcCells S esz v = some cs := by
  obtain ⟨hl, ⟨rfl, a, c, rfl⟩ | ⟨b, o, q, c, ro, cells, rfl, h1, h2, h3, h4⟩⟩ := h
  · have : cs = [] := List.eq_nil_of_length_eq_zero (by simpa using hl)
    subst this; rfl
  · cases n with
    | zero =>
      have : cs = [] := List.eq_nil_of_length_eq_zero (by simpa using hl)
      subst this; rfl
    | succ n => simp only [srcCells, getCells, h1]; rw [if_pos h2, h3]

theorem SlR.idx {S : AS} {esz n : Nat} {v : Value} {cs : List Value} (h : SlR S esz n v cs) {k : Nat} (hk : k < n) (kd : IntKind) :
    ∃ b a, idxSl esz v (.int kd k) = some (.pointer (some ⟨b, a, none⟩)) ∧ ∀ off m, off + m ≤ esz → getCells S b (a + off) m = some ((cs.drop (k * esz + off)).take m) := by
  obtain ⟨hl, ⟨rfl, _⟩ | ⟨b, o, q, c, ro, cells, rfl, h1, h2, h3, h4⟩⟩ := h
  · omega
  · refine ⟨b, o + k * esz, ?_, fun off m hm => ?_⟩
    · simp only [idxSl]
      rw [if_pos ⟨by omega, by omega⟩]
      simp
    · have hle : k * esz + esz ≤ n * esz := by rw [← Nat.succ_mul]; exact Nat.mul_le_mul_right _ hk
      simp only [getCells, h1]
      rw [if_pos (by omega), ← h3]
      congr 1
      rw [List.drop_take, List.take_take, List.drop_drop]
      congr 1
      · omega
      · congr 1; omega

theorem SlR.keeps {S S' : AS} {esz n : Nat} {v : Value} {cs : List Value} {own : List Nat} (h : SlR S esz n v cs) (hk : Keeps S S' own) (hn : ∀ b o q l c, v = .slice (some ⟨b, o, q⟩) l c → b ∉ own) : SlR S' esz n v cs := by
  obtain ⟨hl, h | ⟨b, o, q, c, ro, cells, rfl, h1, h2, h3, h4⟩⟩ := h
  · exact ⟨hl, .inl h⟩
  · exact ⟨hl, .inr ⟨b, o, q, c, ro, cells, rfl, by rw [hk.h b h4 (hn b o q n c rfl), h1], h2, h3, Nat.lt_of_lt_of_le h4 hk.nx⟩⟩

theorem SlR.keep {S S' : AS} {esz n : Nat} {v : Value} {cs : List Value} (h : SlR S esz n v cs) (hk : Keeps S S' []) : SlR S' esz n v cs := h.keeps hk (by simp)

theorem SlO.read {S : AS} {esz : Nat} {v : Value} {cs : List Value} {own : List Nat} (h : SlO S esz v cs own) (hlt : ∀ i ∈ own, i < S.nx) : SlR S esz (Ax.srcLen v) v cs := by
  rcases h with ⟨rfl, rfl, rfl⟩ | ⟨b, len, cap, tail, rfl, rfl, h3, h4, h5, h6⟩
  · exact ⟨by simp [Ax.srcLen], .inl ⟨rfl, _, _, rfl⟩⟩
  · refine ⟨h4, .inr ⟨b, 0, _, cap, false, cs ++ tail, rfl, h3, ?_, ?_, hlt b (by simp)⟩⟩
    · rw [srcLen_sl]; simp; omega
    · rw [srcLen_sl, ← h4]; simp

theorem SlO.keeps {S S' : AS} {esz : Nat} {v : Value} {cs : List Value} {own ot : List Nat} (h : SlO S esz v cs own) (hk : Keeps S S' ot) (hlt : ∀ i ∈ own, i < S.nx) (hn : ∀ i ∈ own, i ∉ ot) : SlO S' esz v cs own :=
  h.frame fun i hi => hk.h i (hlt i hi) (hn i hi)

/-- Where the first one is for which it holds, counted from k on; -1: there is none. -/
def idxL {α : Type} (p : α → Bool) : List α → Int → Int
  | [], _ => -1
  | a :: r, k => if p a then k else idxL p r (k + 1)

theorem idxL_drop {α : Type} {p : α → Bool} {l : List α} {k : Nat} (h : k < l.length) (j : Int) : idxL p (l.drop k) j = if p l[k] then j else idxL p (l.drop (k + 1)) (j + 1) := by
  rw [List.drop_eq_getElem_cons h]
  rfl

theorem idxL_lt {α : Type} {p : α → Bool} : ∀ {l : List α} {k : Int}, idxL p l k < k + l.length ∨ idxL p l k = -1
  | [], k => .inr rfl
  | a :: r, k => by
    simp only [idxL]
    split
    · left; simp; omega
    · rcases idxL_lt (p := p) (l := r) (k := k + 1) with h | h
      · left; simp; omega
      · exact .inr h

end Go.Ax

/- What a program owns, in parts: a list of assertions, each of which has its own objects. -/
namespace Go.Ax

abbrev Hp := Nat → Option AObj
abbrev Asn := Hp → Prop

def cutH (h : Hp) (s : Nat → Bool) : Hp := fun i => bif s i then h i else none

/-- Each has its own part; what is left belongs to nobody. -/
def Star : List Asn → Hp → Prop
  | [], _ => True
  | P :: l, h => ∃ s : Nat → Bool, P (cutH h s) ∧ Star l (cutH h fun i => !s i)

theorem cutH_cutH (h : Hp) (s t : Nat → Bool) : cutH (cutH h s) t = cutH h fun i => s i && t i := by
  funext i; dsimp only [cutH]; cases s i <;> cases t i <;> rfl

theorem cutH_congr {h : Hp} {s t : Nat → Bool} (e : ∀ i, s i = t i) : cutH h s = cutH h t := by
  funext i; simp only [cutH, e i]

theorem Star.sub : ∀ {l : List Asn} {h h' : Hp}, (∀ i o, h i = some o → h' i = some o) → Star l h → Star l h'
  | [], _, _, _, _ => trivial
  | P :: l, h, h', hs, ⟨s, hp, hl⟩ => by
    refine ⟨fun i => s i && (h i).isSome, ?_, Star.sub (fun i o ho => ?_) hl⟩
    · have : cutH h' (fun i => s i && (h i).isSome) = cutH h s := by
        funext i
        dsimp only [cutH]
        cases hi : h i with
        | none => cases s i <;> rfl
        | some o => rw [hs i o hi]; cases s i <;> rfl
      rw [this]; exact hp
    · dsimp only [cutH] at ho ⊢
      cases hsi : s i with
      | true => rw [hsi] at ho; cases ho
      | false =>
        rw [hsi] at ho
        exact hs i o ho

theorem Star.swap {P Q : Asn} {l : List Asn} {h : Hp} : Star (P :: Q :: l) h → Star (Q :: P :: l) h := by
  rintro ⟨s, hp, t, hq, hl⟩
  refine ⟨fun i => !s i && t i, ?_, s, ?_, ?_⟩
  · rw [cutH_cutH] at hq; exact hq
  · rw [cutH_cutH, cutH_congr (t := s)]
    · exact hp
    · intro i; dsimp only; cases s i <;> cases t i <;> rfl
  · rw [cutH_cutH] at hl ⊢
    rw [cutH_congr (t := fun i => !s i && !t i)]
    · exact hl
    · intro i; dsimp only; cases s i <;> cases t i <;> rfl

theorem Star.perm {l l' : List Asn} (hp : l.Perm l') : ∀ {h : Hp}, Star l h → Star l' h := by
  induction hp with
  | nil => exact fun h => h
  | cons P _ ih => rintro h ⟨s, h1, h2⟩; exact ⟨s, h1, ih h2⟩
  | swap P Q l => exact fun h => h.swap
  | trans _ _ ih1 ih2 => exact fun h => ih2 (ih1 h)

theorem Star.tail {P : Asn} {l : List Asn} {h : Hp} : Star (P :: l) h → Star l h := by
  rintro ⟨s, _, hl⟩
  refine hl.sub fun i o ho => ?_
  dsimp only [cutH] at ho
  cases hs : s i <;> rw [hs] at ho <;> first | exact ho | cases ho

theorem Star.append_left {l m : List Asn} : ∀ {h : Hp}, Star (l ++ m) h → Star m h := by
  induction l with
  | nil => exact fun h => h
  | cons P l ih => exact fun h => ih h.tail

/-- Assertions taken together. -/
theorem Star.flat {ps l : List Asn} : ∀ {h : Hp}, Star (Star ps :: l) h ↔ Star (ps ++ l) h := by
  induction ps with
  | nil =>
    intro h
    refine ⟨fun h => h.tail, fun hl => ⟨fun _ => false, trivial, ?_⟩⟩
    refine hl.sub fun i o ho => ?_
    exact ho
  | cons P ps ih =>
    intro h
    constructor
    · rintro ⟨s, ⟨t, hp, hps⟩, hl⟩
      refine ⟨fun i => s i && t i, by rw [cutH_cutH] at hp; exact hp, ih.1 ⟨s, ?_, ?_⟩⟩
      · rw [cutH_cutH] at hps ⊢
        rw [cutH_congr (t := fun i => s i && !t i)]
        · exact hps
        · intro i; (try dsimp only); cases s i <;> cases t i <;> rfl
      · rw [cutH_cutH, cutH_congr (t := fun i => !s i)]
        · exact hl
        · intro i; (try dsimp only); cases s i <;> cases t i <;> rfl
    · rintro ⟨t, hp, hl⟩
      obtain ⟨s, hps, hl⟩ := ih.2 hl
      refine ⟨fun i => t i || s i, ⟨t, ?_, ?_⟩, ?_⟩
      · rw [cutH_cutH, cutH_congr (t := t)]
        · exact hp
        · intro i; (try dsimp only); cases s i <;> cases t i <;> rfl
      · rw [cutH_cutH] at hps ⊢
        rw [cutH_congr (t := fun i => !t i && s i)]
        · exact hps
        · intro i; (try dsimp only); cases s i <;> cases t i <;> rfl
      · rw [cutH_cutH] at hl
        rw [cutH_congr (t := fun i => !t i && !s i)]
        · exact hl
        · intro i; (try dsimp only); cases s i <;> cases t i <;> rfl

/-- An object. -/
def obj (b : Nat) (o : AObj) : Asn := fun h => h b = some o
/-- Cells. -/
def pts (b : Nat) (cs : List Value) : Asn := obj b (.cells false cs)

def updH (h : Hp) (b : Nat) (o : Option AObj) : Hp := fun i => if i = b then o else h i

theorem cutH_some {h : Hp} {s : Nat → Bool} {i : Nat} {o : AObj} (hh : cutH h s i = some o) : s i = true ∧ h i = some o := by
  dsimp only [cutH] at hh
  cases hs : s i with
  | false => rw [hs] at hh; cases hh
  | true => rw [hs] at hh; exact ⟨rfl, hh⟩

theorem Star.get {b : Nat} {o : AObj} {l : List Asn} {h : Hp} : Star (obj b o :: l) h → h b = some o := by
  rintro ⟨s, hp, _⟩
  exact (cutH_some hp).2

theorem Star.ne {b b' : Nat} {o o' : AObj} {l : List Asn} {h : Hp} : Star (obj b o :: obj b' o' :: l) h → b ≠ b' := by
  rintro ⟨s, hp, t, hq, _⟩ e
  subst e
  have h1 := (cutH_some hp).1
  have h2 := (cutH_some (cutH_some hq).2).1
  simp [h1] at h2

theorem Star.upd {b : Nat} {o o' : AObj} {l : List Asn} {h : Hp} : Star (obj b o :: l) h → Star (obj b o' :: l) (updH h b (some o')) := by
  rintro ⟨s, hp, hl⟩
  have h1 := (cutH_some hp).1
  refine ⟨s, by simp [obj, cutH, h1, updH], ?_⟩
  have : cutH (updH h b (some o')) (fun i => !s i) = cutH h fun i => !s i := by
    funext i
    simp only [cutH, updH]
    by_cases e : i = b
    · subst e; simp [h1]
    · simp [e]
  rw [this]; exact hl

theorem Star.gone {b : Nat} {o : AObj} {l : List Asn} {h : Hp} : Star (obj b o :: l) h → Star l (updH h b none) := by
  rintro ⟨s, hp, hl⟩
  have h1 := (cutH_some hp).1
  refine hl.sub fun i o ho => ?_
  obtain ⟨k1, k2⟩ := cutH_some ho
  simp only [updH]
  rw [if_neg, k2]
  intro e; subst e; simp [h1] at k1

theorem Star.new {n : Nat} {o : AObj} {l : List Asn} {h : Hp} (hn : h n = none) (hl : Star l h) : Star (obj n o :: l) (updH h n (some o)) := by
  refine ⟨fun i => i == n, by simp [obj, cutH, updH], hl.sub fun i o ho => ?_⟩
  have : i ≠ n := by intro e; subst e; rw [hn] at ho; cases ho
  have hb : (i == n) = false := by simpa using this
  simp [cutH, updH, this, ho, hb]

/-- The part of a state that is owned. -/
def nrS (S : AS) : Hp := fun i => if i < S.nx then (match S.h i with | some o => if o.ro then none else some o | none => none) else none

theorem nrS_some {S : AS} {i : Nat} {o : AObj} : nrS S i = some o ↔ i < S.nx ∧ S.h i = some o ∧ o.ro = false := by
  unfold nrS
  by_cases hi : i < S.nx
  · rw [if_pos hi]
    cases hh : S.h i with
    | none => simp
    | some o' =>
      cases hr : o'.ro with
      | true => simp [hr]; intro _ e; subst e; exact hr
      | false =>
        simp [hr, hi]
        intro e; subst e; exact hr
  · rw [if_neg hi]; simp [hi]

/-- A state: what is read only, and assertions of what is owned. -/
structure St (R : Nat → Option (List Value)) (A : List Asn) (S : AS) : Prop where
  star : Star A (nrS S)
  ro : ∀ b cs, R b = some cs → b < S.nx ∧ S.h b = some (.cells true cs)

section st
variable {R : Nat → Option (List Value)} {A B : List Asn} {P Q : Asn} {S S' : AS} {b : Nat} {o : AObj}

theorem St.perm (h : St R A S) (hp : A.Perm B) : St R B S := ⟨h.star.perm hp, h.ro⟩
theorem St.tail (h : St R (P :: A) S) : St R A S := ⟨h.star.tail, h.ro⟩
theorem St.swap (h : St R (P :: Q :: A) S) : St R (Q :: P :: A) S := ⟨h.star.swap, h.ro⟩

theorem St.ex {α : Sort _} {p : α → Asn} (h : St R ((fun hh => ∃ x, p x hh) :: A) S) : ∃ x, St R (p x :: A) S := by
  obtain ⟨⟨s, ⟨x, hx⟩, hl⟩, hr⟩ := h
  exact ⟨x, ⟨s, hx, hl⟩, hr⟩

theorem St.imp (h : St R (P :: A) S) (hi : ∀ hh, P hh → Q hh) : St R (Q :: A) S := by
  obtain ⟨⟨s, hx, hl⟩, hr⟩ := h
  exact ⟨⟨s, hi _ hx, hl⟩, hr⟩

theorem St.pure {φ : Prop} (h : St R ((fun hh => φ ∧ P hh) :: A) S) : φ ∧ St R (P :: A) S := by
  obtain ⟨⟨s, hx, hl⟩, hr⟩ := h
  exact ⟨hx.1, ⟨s, hx.2, hl⟩, hr⟩

theorem St.or (h : St R ((fun hh => P hh ∨ Q hh) :: A) S) : St R (P :: A) S ∨ St R (Q :: A) S := by
  obtain ⟨⟨s, hx, hl⟩, hr⟩ := h
  rcases hx with hx | hx
  · exact .inl ⟨⟨s, hx, hl⟩, hr⟩
  · exact .inr ⟨⟨s, hx, hl⟩, hr⟩

theorem St.flat {ps : List Asn} : St R (Star ps :: A) S ↔ St R (ps ++ A) S := ⟨fun h => ⟨Star.flat.1 h.star, h.ro⟩, fun h => ⟨Star.flat.2 h.star, h.ro⟩⟩

theorem St.get (h : St R (obj b o :: A) S) : S.h b = some o := (nrS_some.1 h.star.get).2.1
theorem St.lt (h : St R (obj b o :: A) S) : b < S.nx := (nrS_some.1 h.star.get).1
theorem St.nro (h : St R (obj b o :: A) S) : o.ro = false := (nrS_some.1 h.star.get).2.2
theorem St.pget {cs : List Value} (h : St R (pts b cs :: A) S) : S.h b = some (.cells false cs) := St.get h
theorem St.ne {b' : Nat} {o' : AObj} (h : St R (obj b o :: obj b' o' :: A) S) : b ≠ b' := h.star.ne
theorem St.pne {b' : Nat} {cs cs' : List Value} (h : St R (pts b cs :: pts b' cs' :: A) S) : b ≠ b' := h.star.ne

theorem St.set (h : St R (obj b o :: A) S) (o' : AObj) (hr : o'.ro = false) : St R (obj b o' :: A) (S.set b (some o')) := by
  have hlt := h.lt
  refine ⟨?_, fun b' cs hb => ?_⟩
  · have : nrS (S.set b (some o')) = updH (nrS S) b (some o') := by
      funext i
      simp only [nrS, updH, set_nx, set_h]
      by_cases e : i = b
      · subst e; simp [hlt, hr]
      · simp [e]
    rw [this]; exact h.star.upd
  · obtain ⟨h1, h2⟩ := h.ro b' cs hb
    refine ⟨h1, ?_⟩
    rw [set_h, if_neg, h2]
    intro e; subst e
    have h3 := h.get
    have h4 := h.nro
    rw [h2] at h3; cases h3; cases h4

theorem St.gone (h : St R (obj b o :: A) S) : St R A (S.set b none) := by
  refine ⟨?_, fun b' cs hb => ?_⟩
  · have : nrS (S.set b none) = updH (nrS S) b none := by
      funext i
      simp only [nrS, updH, set_nx, set_h]
      by_cases e : i = b
      · subst e; simp
      · simp [e]
    rw [this]; exact h.star.gone
  · obtain ⟨h1, h2⟩ := h.ro b' cs hb
    refine ⟨h1, ?_⟩
    rw [set_h, if_neg, h2]
    intro e; subst e
    have h3 := h.get
    have h4 := h.nro
    rw [h2] at h3; cases h3; cases h4

theorem St.new (h : St R A S) (o : AObj) (hr : o.ro = false) : St R (obj S.nx o :: A) (S.new o) := by
  refine ⟨?_, fun b' cs hb => ?_⟩
  · have : nrS (S.new o) = updH (nrS S) S.nx (some o) := by
      funext i
      simp only [nrS, updH, new_nx, new_h]
      by_cases e : i = S.nx
      · subst e; simp [hr]
      · have e2 : (i < S.nx + 1) ↔ i < S.nx := by omega
        simp [e, e2]
    rw [this]
    refine h.star.new ?_
    simp [nrS]
  · obtain ⟨h1, h2⟩ := h.ro b' cs hb
    refine ⟨by rw [new_nx]; omega, ?_⟩
    rw [new_h, if_neg (by omega), h2]

theorem St.newc (h : St R A S) (cs : List Value) : St R (pts S.nx cs :: A) (S.new (.cells false cs)) := h.new _ rfl

theorem St.setc {cs : List Value} (h : St R (pts b cs :: A) S) (cs' : List Value) : St R (pts b cs' :: A) (S.set b (some (.cells false cs'))) := St.set h _ rfl

theorem St.keep (h : St R A S) (hk : Keeps S S' []) : St R A S' := by
  refine ⟨h.star.sub fun i o ho => ?_, fun b cs hb => ?_⟩
  · obtain ⟨h1, h2, h3⟩ := nrS_some.1 ho
    exact nrS_some.2 ⟨Nat.lt_of_lt_of_le h1 hk.nx, by rw [hk.h i h1 (by simp)]; exact h2, h3⟩
  · obtain ⟨h1, h2⟩ := h.ro b cs hb
    exact ⟨Nat.lt_of_lt_of_le h1 hk.nx, by rw [hk.h b h1 (by simp)]; exact h2⟩
end st

/-- Some of the first n, in another order, and what is behind them. -/
def pickA (n : Nat) (is : List Nat) (A : List Asn) : List Asn := is.map (fun i => A.getD i (fun _ => True)) ++ A.drop n

def okPick (n : Nat) (is : List Nat) : Bool := decide is.Nodup && is.all (fun i => decide (i < n))

theorem Star.emp {l : List Asn} {h : Hp} (hl : Star l h) : Star ((fun _ => True) :: l) h := ⟨fun _ => false, trivial, by
  refine hl.sub fun i o ho => ?_
  exact ho⟩

theorem Star.get_drop {l : List Asn} {n : Nat} : ∀ {is : List Nat} {h : Hp}, is.Nodup → (∀ i ∈ is, i < n) → Star l h → Star (is.map (fun i => l.getD i (fun _ => True)) ++ l.drop n) h := by
  -- by owners: each assertion keeps its own part
  have key : ∀ (l : List Asn) (h : Hp), Star l h → ∃ own : Nat → Nat, ∀ k (hk : k < l.length), l[k] (cutH h fun i => own i == k) := by
    intro l
    induction l with
    | nil => intro h _; exact ⟨fun _ => 0, fun k hk => by simp at hk⟩
    | cons P l ih =>
      rintro h ⟨s, hp, hl⟩
      obtain ⟨own, ho⟩ := ih _ hl
      refine ⟨fun i => if s i then 0 else own i + 1, fun k hk => ?_⟩
      cases k with
      | zero =>
        simp only [List.getElem_cons_zero]
        rw [cutH_congr (t := s)]
        · exact hp
        · intro i; cases s i <;> simp
      | succ k =>
        simp only [List.getElem_cons_succ]
        have := ho k (by simpa using hk)
        rw [cutH_cutH] at this
        rw [cutH_congr (t := fun i => !s i && own i == k)]
        · exact this
        · intro i; cases s i <;> simp
  have back : ∀ (l : List Asn) (h : Hp) (own : Nat → Nat), (∀ k (hk : k < l.length), l[k] (cutH h fun i => own i == k)) → Star l h := by
    intro l
    induction l with
    | nil => intro h own _; trivial
    | cons P l ih =>
      intro h own ho
      refine ⟨fun i => own i == 0, ho 0 (by simp), ih _ (fun i => own i - 1) fun k hk => ?_⟩
      have := ho (k + 1) (by simpa using hk)
      simp only [List.getElem_cons_succ] at this
      rw [cutH_cutH, cutH_congr (t := fun i => own i == k + 1)]
      · exact this
      · intro i
        by_cases e : own i = 0
        · simp [e]
        · have : (own i - 1 == k) = (own i == k + 1) := by
            rw [Bool.eq_iff_iff]; simp; omega
          simp [e, this]
  intro is h hnd hlt hl
  obtain ⟨own, ho⟩ := key l h hl
  refine back _ h (fun i => if own i < n then is.idxOf (own i) + (if own i ∈ is then 0 else l.length) else is.length + (own i - n)) fun k hk => ?_
  by_cases hk2 : k < is.length
  · rw [List.getElem_append_left (by simpa using hk2)]
    simp only [List.getElem_map]
    rcases Nat.lt_or_ge is[k] l.length with h1 | h1
    · rw [List.getD_eq_getElem?_getD, List.getElem?_eq_getElem h1]
      simp only [Option.getD_some]
      have h2 := ho is[k] h1
      rw [cutH_congr (t := fun i => own i == is[k])]
      · exact h2
      · intro i
        rw [Bool.eq_iff_iff]
        simp only [beq_iff_eq]
        constructor
        · intro e
          by_cases hn : own i < n
          · rw [if_pos hn] at e
            by_cases hm : own i ∈ is
            · rw [if_pos hm, Nat.add_zero] at e
              have := List.getElem_idxOf (List.idxOf_lt_length_of_mem hm)
              simp only [e] at this
              exact this.symm
            · rw [if_neg hm] at e
              have := List.idxOf_eq_length hm
              omega
          · rw [if_neg hn] at e; omega
        · intro e
          have hm : own i ∈ is := by rw [e]; exact List.getElem_mem hk2
          rw [if_pos (by rw [e]; exact hlt _ (List.getElem_mem hk2)), if_pos hm, Nat.add_zero, e]
          exact hnd.idxOf_getElem k hk2
    · rw [List.getD_eq_getElem?_getD, List.getElem?_eq_none h1]
      trivial
  · have hk3 : is.length ≤ k := by omega
    have e : (is.map (fun i => l.getD i (fun _ => True)) ++ l.drop n)[k] = l[n + (k - is.length)]'(by simp at hk; omega) := by
      rw [List.getElem_append_right (by simpa using hk3)]
      simp
    rw [e]
    have hkl : n + (k - is.length) < l.length := by simp at hk; omega
    have h2 := ho _ hkl
    rw [cutH_congr (t := fun i => own i == n + (k - is.length))]
    · exact h2
    · intro i
      rw [Bool.eq_iff_iff]
      simp only [beq_iff_eq]
      constructor
      · intro e
        by_cases hn : own i < n
        · rw [if_pos hn] at e
          by_cases hm : own i ∈ is
          · rw [if_pos hm, Nat.add_zero] at e
            have := List.idxOf_lt_length_of_mem hm
            omega
          · rw [if_neg hm] at e
            have := List.idxOf_eq_length hm
            simp at hk
            omega
        · rw [if_neg hn] at e; omega
      · intro e
        rw [if_neg (by omega)]; omega

theorem St.pick {R : Nat → Option (List Value)} {A : List Asn} {S : AS} (h : St R A S) (n : Nat) (is : List Nat) (hok : okPick n is = true) : St R (pickA n is A) S := by
  simp only [okPick, Bool.and_eq_true, decide_eq_true_eq, List.all_eq_true] at hok
  exact ⟨h.star.get_drop hok.1 hok.2, h.ro⟩

end Go.Ax

/- Slices that can be read, and slices that are owned; elements of a type. -/
namespace Go.Ax

/-- A slice of n elements (esz cells each) that can be read. -/
def Rd (S : AS) (esz n : Nat) (v : Value) (cs : List Value) : Prop :=
  cs.length = n * esz ∧ ∃ a c, v = .slice a n c ∧ n ≤ c ∧ (match a with
    | none => n = 0
    | some ⟨b, o, q⟩ => (q = none ∨ q = some esz) ∧ (n = 0 ∨ ∃ ro cells, b < S.nx ∧ S.h b = some (.cells ro cells) ∧ o + n * esz ≤ cells.length ∧ (cells.drop o).take (n * esz) = cs))

section rd
variable {S S' : AS} {esz n : Nat} {v : Value} {cs : List Value}

theorem Rd.len (h : Rd S esz n v cs) (S' : AS) : lenV .sl S' v = some (.int .i64 n) := by
  obtain ⟨_, a, c, rfl, _⟩ := h; rfl

theorem Rd.srcLen (h : Rd S esz n v cs) : srcLen v = n := by
  obtain ⟨_, a, c, rfl, _⟩ := h; rfl

theorem Rd.src (h : Rd S esz n v cs) : srcCells S esz v = some cs := by
  obtain ⟨hl, a, c, rfl, hc, h⟩ := h
  cases n with
  | zero =>
    have : cs = [] := List.eq_nil_of_length_eq_zero (by simpa using hl)
    subst this; rfl
  | succ n =>
    cases a with
    | none => simp at h
    | some a =>
      obtain ⟨b, o, q⟩ := a
      obtain ⟨_, h | ⟨ro, cells, h1, h2, h3, h4⟩⟩ := h
      · omega
      · simp only [srcCells, getCells, h2]; rw [if_pos h3, h4]

theorem Rd.idx (h : Rd S esz n v cs) {k : Nat} (hk : k < n) (kd : IntKind) :
    ∃ b a, idxSl esz v (.int kd k) = some (.pointer (some ⟨b, a, none⟩)) ∧ b < S.nx ∧ ∀ off m, off + m ≤ esz → getCells S b (a + off) m = some ((cs.drop (k * esz + off)).take m) := by
  obtain ⟨hl, a, c, rfl, hc, h⟩ := h
  cases a with
  | none => simp at h; omega
  | some a =>
    obtain ⟨b, o, q⟩ := a
    obtain ⟨_, h | ⟨ro, cells, h1, h2, h3, h4⟩⟩ := h
    · omega
    · refine ⟨b, o + k * esz, ?_, h1, fun off m hm => ?_⟩
      · simp only [idxSl]
        rw [if_pos ⟨by omega, by omega⟩]
        simp
      · have hle : k * esz + esz ≤ n * esz := by rw [← Nat.succ_mul]; exact Nat.mul_le_mul_right _ hk
        simp only [getCells, h2]
        rw [if_pos (by omega), ← h4]
        congr 1
        rw [List.drop_take, List.take_take, List.drop_drop]
        congr 1
        · omega
        · congr 1; omega

theorem Rd.keep (h : Rd S esz n v cs) (hk : Keeps S S' []) : Rd S' esz n v cs := by
  obtain ⟨hl, a, c, rfl, hc, h⟩ := h
  refine ⟨hl, a, c, rfl, hc, ?_⟩
  cases a with
  | none => exact h
  | some a =>
    obtain ⟨b, o, q⟩ := a
    obtain ⟨h0, h | ⟨ro, cells, h1, h2, h3, h4⟩⟩ := h
    · exact ⟨h0, .inl h⟩
    · exact ⟨h0, .inr ⟨ro, cells, Nat.lt_of_lt_of_le h1 hk.nx, by rw [hk.h b h1 (by simp), h2], h3, h4⟩⟩

/-- A part of a slice. -/
theorem Rd.slice (h : Rd S esz n v cs) {lo hi : Nat} (h1 : lo ≤ hi) (h2 : hi ≤ n) (x y : Option Value) (hx : x = none ∧ lo = 0 ∨ ∃ k, x = some (.int k lo)) (hy : y = none ∧ hi = n ∨ ∃ k, y = some (.int k hi)) :
    ∃ v', sliceV esz v x y none = some v' ∧ Rd S esz (hi - lo) v' ((cs.drop (lo * esz)).take ((hi - lo) * esz)) := by
  obtain ⟨hl, a, c, rfl, hc, h⟩ := h
  have hb : bounds n c x y none = some (lo, hi, c) := by
    have e1 : bOr y c (some n) = some hi := by
      rcases hy with ⟨rfl, rfl⟩ | ⟨k, rfl⟩
      · rfl
      · simp only [bOr, bnd]; rw [if_pos ⟨by omega, by omega⟩]; simp
    have e2 : bOr x hi (some 0) = some lo := by
      rcases hx with ⟨rfl, rfl⟩ | ⟨k, rfl⟩
      · rfl
      · simp only [bOr, bnd]; rw [if_pos ⟨by omega, by omega⟩]; simp
    simp only [bounds, bOr, Option.isSome_none, Bool.false_eq_true, if_false] at e1 e2 ⊢
    simp only [e1, e2]
    rw [if_pos ⟨h1, by omega⟩]
  have hle : hi * esz ≤ n * esz := Nat.mul_le_mul_right _ h2
  have hle2 : lo * esz ≤ hi * esz := Nat.mul_le_mul_right _ h1
  have hsub : (hi - lo) * esz = hi * esz - lo * esz := Nat.sub_mul _ _ _
  have hlen : ((cs.drop (lo * esz)).take ((hi - lo) * esz)).length = (hi - lo) * esz := by simp; omega
  cases a with
  | none =>
    refine ⟨.slice none (hi - lo) (c - lo), by simp only [sliceV, hb], hlen, none, c - lo, rfl, by omega, ?_⟩
    simp at h; omega
  | some a =>
    obtain ⟨b, o, q⟩ := a
    obtain ⟨h0, h⟩ := h
    refine ⟨.slice (some ⟨b, o + lo * esz, q⟩) (hi - lo) (c - lo), ?_, hlen, some ⟨b, o + lo * esz, q⟩, c - lo, rfl, by omega, h0, ?_⟩
    · rcases h0 with rfl | rfl
      · simp only [sliceV, hb]
      · simp only [sliceV, hb, if_true]; rfl
    · rcases h with h | ⟨ro, cells, k1, k2, k3, k4⟩
      · left; omega
      · refine .inr ⟨ro, cells, k1, k2, by omega, ?_⟩
        rw [← k4, List.drop_take, List.take_take, List.drop_drop]
        congr 1
        omega
end rd

/-- Elements of a type, each of esz cells. -/
class Enc (α : Type) (esz : outParam Nat) where
  enc : α → List Value
  len : ∀ x, (enc x).length = esz

open Enc (enc)

def encs {α : Type} {esz : Nat} [Enc α esz] (l : List α) : List Value := l.flatMap enc

instance : Enc Int 1 := ⟨fun n => [.int .i64 n], fun _ => rfl⟩

section enc
variable {α : Type} {esz : Nat} [Enc α esz]

theorem encs_len (l : List α) : (encs l).length = l.length * esz := by
  induction l with
  | nil => simp [encs]
  | cons x l ih =>
    have h1 : (encs (x :: l)) = enc x ++ encs l := by simp [encs]
    rw [h1, List.length_append, Enc.len, ih, List.length_cons, Nat.succ_mul]; omega

theorem encs_cons (x : α) (l : List α) : encs (x :: l) = enc x ++ encs l := by simp [encs]
theorem encs_append (l m : List α) : encs (l ++ m) = encs l ++ encs m := by simp [encs]
theorem encs_nil : encs ([] : List α) = [] := rfl

theorem encs_drop (l : List α) (k : Nat) : (encs l).drop (k * esz) = encs (l.drop k) := by
  induction l generalizing k with
  | nil => simp [encs]
  | cons x l ih =>
    cases k with
    | zero => simp
    | succ k =>
      have hx := Enc.len x
      rw [encs_cons, List.drop_succ_cons, ← ih k, Nat.succ_mul, Nat.add_comm, List.drop_append, List.drop_of_length_le (by omega), hx, List.nil_append]
      congr 1; omega

theorem encs_take (l : List α) (k : Nat) : (encs l).take (k * esz) = encs (l.take k) := by
  induction l generalizing k with
  | nil => simp [encs]
  | cons x l ih =>
    cases k with
    | zero => simp [encs]
    | succ k =>
      have hx := Enc.len x
      rw [encs_cons, List.take_succ_cons, encs_cons, ← ih k, Nat.succ_mul, Nat.add_comm, List.take_append, List.take_of_length_le (by omega), hx]
      congr 2; omega

theorem encs_at (l : List α) {k : Nat} (hk : k < l.length) (off m : Nat) (hm : off + m ≤ esz) : ((encs l).drop (k * esz + off)).take m = ((enc l[k]).drop off).take m := by
  rw [← List.drop_drop, encs_drop, List.drop_eq_getElem_cons hk, encs_cons, List.drop_append_of_le_length (by rw [Enc.len]; omega), List.take_append_of_le_length (by rw [List.length_drop, Enc.len]; omega)]

theorem encs_set (l : List α) {k : Nat} (hk : k < l.length) (x : α) : (encs l).take (k * esz) ++ enc x ++ (encs l).drop (k * esz + esz) = encs (l.set k x) := by
  rw [encs_take, ← Nat.succ_mul, encs_drop, List.set_eq_take_append_cons_drop, if_pos hk, encs_append, encs_cons, List.append_assoc]

/-- Part of an element is written. -/
theorem encs_put (l : List α) {k : Nat} (hk : k < l.length) {off : Nat} {vs : List Value} (hm : off + vs.length ≤ esz) (x : α) (hx : enc x = (enc l[k]).take off ++ vs ++ (enc l[k]).drop (off + vs.length)) :
    (encs l).take (k * esz + off) ++ vs ++ (encs l).drop (k * esz + off + vs.length) = encs (l.set k x) := by
  rw [← encs_set l hk x, hx, List.take_add, encs_drop, List.drop_eq_getElem_cons hk, encs_cons, List.take_append_of_le_length (by rw [Enc.len]; omega)]
  have e1 : (encs l).drop (k * esz + off + vs.length) = (enc l[k]).drop (off + vs.length) ++ (encs l).drop (k * esz + esz) := by
    rw [Nat.add_assoc, ← List.drop_drop, encs_drop, List.drop_eq_getElem_cons hk, encs_cons, List.drop_append_of_le_length (by rw [Enc.len]; omega)]
    rw [← Nat.succ_mul, encs_drop]
  rw [e1]
  simp only [List.append_assoc]
end enc

/-- A slice of elements that can be read. -/
def RdT {α : Type} {esz : Nat} [Enc α esz] (S : AS) (v : Value) (l : List α) : Prop := Rd S esz l.length v (encs l)

section rdt
variable {S S' : AS} {α : Type} {esz : Nat} [Enc α esz] {v : Value} {l : List α}

theorem RdT.len (h : RdT S v l) (S' : AS) : lenV .sl S' v = some (.int .i64 l.length) := Rd.len h S'
theorem RdT.keep (h : RdT S v l) (hk : Keeps S S' []) : RdT S' v l := Rd.keep h hk
theorem RdT.idx (h : RdT S v l) {k : Nat} (hk : k < l.length) (kd : IntKind) :
    ∃ b a, idxSl esz v (.int kd k) = some (.pointer (some ⟨b, a, none⟩)) ∧ b < S.nx ∧ (∀ off m, off + m ≤ esz → getCells S b (a + off) m = some (((enc l[k]).drop off).take m)) ∧ (∀ m, m ≤ esz → getCells S b a m = some ((enc l[k]).take m)) := by
  obtain ⟨b, a, h1, h2, h3⟩ := Rd.idx h hk kd
  have h4 : ∀ off m, off + m ≤ esz → getCells S b (a + off) m = some (((enc l[k]).drop off).take m) := fun off m hm => by rw [h3 off m hm, encs_at l hk off m hm]
  exact ⟨b, a, h1, h2, h4, fun m hm => by simpa using h4 0 m (by omega)⟩

theorem RdT.slice (h : RdT S v l) {lo hi : Nat} (h1 : lo ≤ hi) (h2 : hi ≤ l.length) (x y : Option Value) (hx : x = none ∧ lo = 0 ∨ ∃ k, x = some (.int k lo)) (hy : y = none ∧ hi = l.length ∨ ∃ k, y = some (.int k hi)) :
    ∃ v', sliceV esz v x y none = some v' ∧ RdT S v' ((l.drop lo).take (hi - lo)) := by
  obtain ⟨v', h3, h4⟩ := Rd.slice h h1 h2 x y hx hy
  refine ⟨v', h3, ?_⟩
  rw [encs_drop, encs_take] at h4
  have : ((l.drop lo).take (hi - lo)).length = hi - lo := by simp; omega
  unfold RdT
  rw [this]
  exact h4
end rdt

/-- A slice that is owned: n elements of esz cells each. -/
def Sl (esz n : Nat) (v : Value) (cs : List Value) : Asn := fun h => cs.length = n * esz ∧ ((n = 0 ∧ v = .slice none 0 0) ∨
  ∃ b q pre cap tail, (q = none ∨ q = some esz) ∧ v = .slice (some ⟨b, pre.length, q⟩) n cap ∧ h b = some (.cells false (pre ++ cs ++ tail)) ∧ cap * esz ≤ (cs ++ tail).length ∧ n ≤ cap)

section sl
variable {R : Nat → Option (List Value)} {A : List Asn} {S S' : AS} {esz n : Nat} {v : Value} {cs : List Value}

theorem Sl.open' (h : St R (Sl esz n v cs :: A) S) : cs.length = n * esz ∧ ((n = 0 ∧ v = .slice none 0 0) ∨
    ∃ b q pre cap tail, (q = none ∨ q = some esz) ∧ v = .slice (some ⟨b, pre.length, q⟩) n cap ∧ St R (pts b (pre ++ cs ++ tail) :: A) S ∧ cap * esz ≤ (cs ++ tail).length ∧ n ≤ cap) := by
  obtain ⟨⟨s, ⟨h1, h2⟩, h3⟩, h4⟩ := h
  refine ⟨h1, ?_⟩
  rcases h2 with h2 | ⟨b, q, pre, cap, tail, k1, k2, k3, k4, k5⟩
  · exact .inl h2
  · exact .inr ⟨b, q, pre, cap, tail, k1, k2, ⟨⟨s, k3, h3⟩, h4⟩, k4, k5⟩

theorem Sl.close {b : Nat} {q : Option Nat} {pre tail : List Value} {cap : Nat} (h : St R (pts b (pre ++ cs ++ tail) :: A) S) (hl : cs.length = n * esz) (hq : q = none ∨ q = some esz) (hv : v = .slice (some ⟨b, pre.length, q⟩) n cap) (hc : cap * esz ≤ (cs ++ tail).length) (hn : n ≤ cap) : St R (Sl esz n v cs :: A) S :=
  h.imp fun hh k => ⟨hl, .inr ⟨b, q, pre, cap, tail, hq, hv, k, hc, hn⟩⟩

theorem Sl.nil (h : St R A S) (esz : Nat) : St R (Sl esz 0 (.slice none 0 0) [] :: A) S := by
  obtain ⟨h1, h2⟩ := h
  exact ⟨⟨fun _ => false, ⟨by simp, .inl ⟨rfl, rfl⟩⟩, h1.sub fun i o ho => ho⟩, h2⟩

theorem Sl.read (h : St R (Sl esz n v cs :: A) S) : Rd S esz n v cs := by
  obtain ⟨h1, ⟨rfl, rfl⟩ | ⟨b, q, pre, cap, tail, k1, rfl, k3, k4, k5⟩⟩ := Sl.open' h
  · exact ⟨h1, none, 0, rfl, Nat.le_refl _, rfl⟩
  · refine ⟨h1, some ⟨b, pre.length, q⟩, cap, rfl, k5, k1, .inr ⟨false, _, k3.lt, k3.pget, ?_, ?_⟩⟩
    · simp; omega
    · rw [List.append_assoc, List.drop_left', ← h1, List.take_left']
      · rfl
      · rfl

theorem Sl.len (h : St R (Sl esz n v cs :: A) S) (S' : AS) : lenV .sl S' v = some (.int .i64 n) := (Sl.read h).len S'

/-- A cell of it is written. -/
theorem Sl.put (h : St R (Sl esz n v cs :: A) S) {k : Nat} (hk : k < n) (kd : IntKind) :
    ∃ b a, idxSl esz v (.int kd k) = some (.pointer (some ⟨b, a, none⟩)) ∧ S.roAt b = false ∧ b < S.nx ∧ (∀ off m, off + m ≤ esz → getCells S b (a + off) m = some ((cs.drop (k * esz + off)).take m)) ∧
      ∀ off vs, off + vs.length ≤ esz → ∃ S', setCells S b (a + off) vs = some S' ∧ St R (Sl esz n v (cs.take (k * esz + off) ++ vs ++ cs.drop (k * esz + off + vs.length)) :: A) S' ∧ S'.nx = S.nx ∧ ∀ j, j ≠ b → S'.h j = S.h j := by
  obtain ⟨b', a', r1, r2, r3⟩ := (Sl.read h).idx hk kd
  obtain ⟨h1, ⟨rfl, rfl⟩ | ⟨b, q, pre, cap, tail, k1, rfl, k3, k4, k5⟩⟩ := Sl.open' h
  · omega
  · have e : idxSl esz (.slice (some ⟨b, pre.length, q⟩) n cap) (.int kd k) = some (.pointer (some ⟨b, pre.length + k * esz, none⟩)) := by
      simp only [idxSl]; rw [if_pos ⟨by omega, by omega⟩]; simp
    rw [e] at r1
    obtain ⟨rfl, rfl⟩ : b = b' ∧ pre.length + k * esz = a' := by simpa using r1
    refine ⟨b, _, e, by simp [AS.roAt, k3.pget, AObj.ro], r2, r3, fun off vs hvs => ?_⟩
    have hle : k * esz + esz ≤ n * esz := by rw [← Nat.succ_mul]; exact Nat.mul_le_mul_right _ hk
    refine ⟨S.set b (some (.cells false (pre ++ (cs.take (k * esz + off) ++ vs ++ cs.drop (k * esz + off + vs.length)) ++ tail))), ?_, ?_, rfl, fun j hj => by rw [set_h, if_neg hj]⟩
    · simp only [setCells, k3.pget]
      rw [if_pos (by simp; omega)]
      congr 4
      have e1 : (pre ++ cs ++ tail).take (pre.length + k * esz + off) = pre ++ cs.take (k * esz + off) := by
        rw [List.append_assoc, Nat.add_assoc, List.take_length_add_append, List.take_append_of_le_length (by omega)]
      have e2 : (pre ++ cs ++ tail).drop (pre.length + k * esz + off + vs.length) = cs.drop (k * esz + off + vs.length) ++ tail := by
        rw [List.append_assoc, show pre.length + k * esz + off + vs.length = pre.length + (k * esz + off + vs.length) from by omega, List.drop_length_add_append, List.drop_append_of_le_length (by omega)]
      rw [e1, e2]; simp only [List.append_assoc]
    · refine Sl.close (k3.setc _) ?_ k1 rfl ?_ k5
      · simp; omega
      · simp at k4 ⊢; omega

/-- Appending. -/
theorem Sl.append (h : St R (Sl esz n v cs :: A) S) {bytes m : Nat} {x : Value} {ns : List Value} (hx : srcCells S esz x = some ns) (hm : srcLen x = m) (hn : ns.length = m * esz) (hb : (n + m) * bytes ≤ 1099511627776) :
    ∃ v' S', appV esz bytes S v x = some (v', S') ∧ St R (Sl esz (n + m) v' (cs ++ ns) :: A) S' := by
  obtain ⟨h1, ⟨rfl, rfl⟩ | ⟨b, q, pre, cap, tail, k1, rfl, k3, k4, k5⟩⟩ := Sl.open' h
  · have hcs : cs = [] := List.eq_nil_of_length_eq_zero (by simpa using h1)
    subst hcs
    by_cases h0 : m = 0
    · subst h0
      have : ns = [] := List.eq_nil_of_length_eq_zero (by simpa using hn)
      subst this
      refine ⟨.slice none 0 0, S, ?_, h⟩
      simp only [appV, hx]; rw [if_pos (by omega), if_pos hm]
    · refine ⟨.slice (some ⟨S.nx, 0, some esz⟩) (0 + m) (0 + m), S.new (.cells false ([] ++ ns)), ?_, ?_⟩
      · simp only [appV, hx, hm]
        rw [if_neg (by omega), if_pos (by rw [Nat.zero_add] at hb ⊢; exact hb)]
        rfl
      · refine Sl.close (pre := []) (tail := []) (cap := 0 + m) (b := S.nx) (q := some esz) ?_ (by simpa using hn) (.inr rfl) rfl (by simp [hn]) (Nat.le_refl _)
        simpa using h.tail.newc ns
  · by_cases hc : n + m ≤ cap
    · have hle : (n + m) * esz ≤ cap * esz := Nat.mul_le_mul_right _ hc
      rw [Nat.add_mul] at hle
      have hl5 : cap * esz ≤ cs.length + tail.length := by simpa using k4
      by_cases h0 : m = 0
      · subst h0
        have : ns = [] := List.eq_nil_of_length_eq_zero (by simpa using hn)
        subst this
        refine ⟨.slice (some ⟨b, pre.length, q⟩) n cap, S, ?_, by simpa using h⟩
        simp only [appV, hx, hm]; rw [if_pos hc, if_pos trivial]
      · refine ⟨.slice (some ⟨b, pre.length, q⟩) (n + m) cap, S.set b (some (.cells false (pre ++ (cs ++ ns) ++ tail.drop ns.length))), ?_, ?_⟩
        · simp only [appV, hx, hm]
          rw [if_pos hc, if_neg h0]
          simp only [setCells, k3.pget]
          rw [if_pos (by simp; omega)]
          simp only [Option.map_some]
          have e1 : (pre ++ cs ++ tail).take (pre.length + n * esz) = pre ++ cs := by rw [← h1, List.append_assoc, List.take_length_add_append]; simp
          have e2 : (pre ++ cs ++ tail).drop (pre.length + n * esz + ns.length) = tail.drop ns.length := by rw [← h1, List.append_assoc, Nat.add_assoc, List.drop_length_add_append, List.drop_length_add_append]
          rw [e1, e2]; simp only [List.append_assoc]
        · exact Sl.close (k3.setc _) (by rw [List.length_append, h1, hn, Nat.add_mul]) k1 rfl (by simp; omega) hc
    · have hs : srcCells S esz (.slice (some ⟨b, pre.length, q⟩) n cap) = some cs := (Sl.read h).src
      rcases k1 with rfl | rfl
      · refine ⟨.slice (some ⟨S.nx, 0, some esz⟩) (n + m) (n + m), S.new (.cells false (cs ++ ns)), ?_, ?_⟩
        · simp only [appV, hx, hm]
          rw [if_neg hc, if_pos hb, hs]
        · refine Sl.close (pre := []) (tail := []) (cap := n + m) (b := S.nx) (q := some esz) ?_ (by rw [List.length_append, h1, hn, Nat.add_mul]) (.inr rfl) rfl (by simp [h1, hn, Nat.add_mul]) (Nat.le_refl _)
          simpa using k3.tail.newc (cs ++ ns)
      · refine ⟨.slice (some ⟨S.nx, 0, some esz⟩) (n + m) (n + m), (S.set b none).new (.cells false (cs ++ ns)), ?_, ?_⟩
        · simp only [appV, hx, hm]
          rw [if_neg hc, if_pos hb, hs]
          simp only [k3.pget, if_true]
        · refine Sl.close (pre := []) (tail := []) (cap := n + m) (b := S.nx) (q := some esz) ?_ (by rw [List.length_append, h1, hn, Nat.add_mul]) (.inr rfl) rfl (by simp [h1, hn, Nat.add_mul]) (Nat.le_refl _)
          have := (St.gone k3).newc (cs ++ ns)
          rw [set_nx] at this
          simpa using this

/-- What is left, where only a part is wanted. -/
theorem Sl.slice (h : St R (Sl esz n v cs :: A) S) {lo hi : Nat} (h1 : lo ≤ hi) (h2 : hi ≤ n) (x y : Option Value) (hx : x = none ∧ lo = 0 ∨ ∃ k, x = some (.int k lo)) (hy : y = none ∧ hi = n ∨ ∃ k, y = some (.int k hi)) :
    ∃ v', sliceV esz v x y none = some v' ∧ St R (Sl esz (hi - lo) v' ((cs.drop (lo * esz)).take ((hi - lo) * esz)) :: A) S := by
  obtain ⟨hl, ⟨rfl, rfl⟩ | ⟨b, q, pre, cap, tail, k1, rfl, k3, k4, k5⟩⟩ := Sl.open' h
  · obtain ⟨v', e1, e2⟩ := Rd.slice (Sl.read h) h1 h2 x y hx hy
    have h0 : lo = 0 ∧ hi = 0 := by omega
    obtain ⟨rfl, rfl⟩ := h0
    have hv : v' = .slice none 0 0 := by
      have hb : sliceV esz (.slice none 0 0) x y none = some (.slice none 0 0) := by
        rcases hx with ⟨rfl, _⟩ | ⟨kx, rfl⟩ <;> rcases hy with ⟨rfl, _⟩ | ⟨ky, rfl⟩ <;> simp [sliceV, bounds, bOr, bnd]
      rw [hb] at e1; cases e1; rfl
    subst hv
    have hcs : cs = [] := List.eq_nil_of_length_eq_zero (by simpa using hl)
    subst hcs
    exact ⟨_, e1, by simpa using h⟩
  · have hb : bounds n cap x y none = some (lo, hi, cap) := by
      have e1 : bOr y cap (some n) = some hi := by
        rcases hy with ⟨rfl, rfl⟩ | ⟨k, rfl⟩
        · rfl
        · simp only [bOr, bnd]; rw [if_pos ⟨by omega, by omega⟩]; simp
      have e2 : bOr x hi (some 0) = some lo := by
        rcases hx with ⟨rfl, rfl⟩ | ⟨k, rfl⟩
        · rfl
        · simp only [bOr, bnd]; rw [if_pos ⟨by omega, by omega⟩]; simp
      simp only [bounds, bOr, Option.isSome_none, Bool.false_eq_true, if_false] at e1 e2 ⊢
      simp only [e1, e2]
      rw [if_pos ⟨h1, by omega⟩]
    have hle : hi * esz ≤ n * esz := Nat.mul_le_mul_right _ h2
    have hle2 : lo * esz ≤ hi * esz := Nat.mul_le_mul_right _ h1
    have hsub : (hi - lo) * esz = hi * esz - lo * esz := Nat.sub_mul _ _ _
    have hsub2 : (cap - lo) * esz = cap * esz - lo * esz := Nat.sub_mul _ _ _
    refine ⟨.slice (some ⟨b, pre.length + lo * esz, q⟩) (hi - lo) (cap - lo), ?_, ?_⟩
    · rcases k1 with rfl | rfl
      · simp only [sliceV, hb]
      · simp only [sliceV, hb, if_true]; rfl
    · have hsplit : pre ++ cs ++ tail = (pre ++ cs.take (lo * esz)) ++ (cs.drop (lo * esz)).take ((hi - lo) * esz) ++ (cs.drop (hi * esz) ++ tail) := by
        have e1 : cs = cs.take (lo * esz) ++ ((cs.drop (lo * esz)).take ((hi - lo) * esz) ++ cs.drop (hi * esz)) := by
          have : cs.drop (hi * esz) = (cs.drop (lo * esz)).drop ((hi - lo) * esz) := by rw [List.drop_drop]; congr 1; omega
          rw [this, List.take_append_drop, List.take_append_drop]
        conv => lhs; rw [e1]
        simp only [List.append_assoc]
      rw [hsplit] at k3
      refine Sl.close (cap := cap - lo) k3 ?_ k1 ?_ ?_ (by omega)
      · simp; omega
      · congr 3; simp; omega
      · simp at k4 ⊢; omega
end sl

/-- A slice of elements that is owned. -/
def SlT {α : Type} {esz : Nat} [Enc α esz] (v : Value) (l : List α) : Asn := Sl esz l.length v (encs l)

section slt
variable {R : Nat → Option (List Value)} {A : List Asn} {S S' : AS} {α : Type} {esz : Nat} [Enc α esz] {v : Value} {l : List α}

theorem SlT.nil (h : St R A S) : St R (SlT (.slice none 0 0) ([] : List α) :: A) S := Sl.nil h esz
theorem SlT.read (h : St R (SlT v l :: A) S) : RdT S v l := Sl.read h
theorem SlT.len (h : St R (SlT v l :: A) S) (S' : AS) : lenV .sl S' v = some (.int .i64 l.length) := Sl.len h S'

theorem SlT.append (h : St R (SlT v l :: A) S) {bytes : Nat} {x : Value} {m : List α} (hx : srcCells S esz x = some (encs m)) (hm : srcLen x = m.length) (hb : (l.length + m.length) * bytes ≤ 1099511627776) :
    ∃ v' S', appV esz bytes S v x = some (v', S') ∧ St R (SlT v' (l ++ m) :: A) S' := by
  obtain ⟨v', S', h1, h2⟩ := Sl.append h (bytes := bytes) hx hm (encs_len m) hb
  refine ⟨v', S', h1, ?_⟩
  rw [← encs_append, ← List.length_append] at h2
  exact h2

theorem SlT.slice (h : St R (SlT v l :: A) S) {lo hi : Nat} (h1 : lo ≤ hi) (h2 : hi ≤ l.length) (x y : Option Value) (hx : x = none ∧ lo = 0 ∨ ∃ k, x = some (.int k lo)) (hy : y = none ∧ hi = l.length ∨ ∃ k, y = some (.int k hi)) :
    ∃ v', sliceV esz v x y none = some v' ∧ St R (SlT v' ((l.drop lo).take (hi - lo)) :: A) S := by
  obtain ⟨v', h3, h4⟩ := Sl.slice h h1 h2 x y hx hy
  refine ⟨v', h3, ?_⟩
  rw [encs_drop, encs_take] at h4
  have : ((l.drop lo).take (hi - lo)).length = hi - lo := by simp; omega
  unfold SlT
  rw [this]
  exact h4

/-- An element: its address, what is read there, and what is written. -/
theorem SlT.put (h : St R (SlT v l :: A) S) {k : Nat} (hk : k < l.length) (kd : IntKind) :
    ∃ b a, idxSl esz v (.int kd k) = some (.pointer (some ⟨b, a, none⟩)) ∧ S.roAt b = false ∧ b < S.nx ∧ (∀ off m, off + m ≤ esz → getCells S b (a + off) m = some (((enc l[k]).drop off).take m)) ∧ (∀ m, m ≤ esz → getCells S b a m = some ((enc l[k]).take m)) ∧
      (∀ off vs (x : α), off + vs.length ≤ esz → enc x = (enc l[k]).take off ++ vs ++ (enc l[k]).drop (off + vs.length) → ∃ S', setCells S b (a + off) vs = some S' ∧ St R (SlT v (l.set k x) :: A) S' ∧ S'.nx = S.nx ∧ ∀ j, j ≠ b → S'.h j = S.h j) ∧
      (∀ vs (x : α), enc x = vs → ∃ S', setCells S b a vs = some S' ∧ St R (SlT v (l.set k x) :: A) S' ∧ S'.nx = S.nx ∧ ∀ j, j ≠ b → S'.h j = S.h j) := by
  obtain ⟨b, a, h1, h2, h3, h4, h5⟩ := Sl.put h hk kd
  have h6 : ∀ off m, off + m ≤ esz → getCells S b (a + off) m = some (((enc l[k]).drop off).take m) := fun off m hm => by rw [h4 off m hm, encs_at l hk off m hm]
  have h7 : ∀ off vs (x : α), off + vs.length ≤ esz → enc x = (enc l[k]).take off ++ vs ++ (enc l[k]).drop (off + vs.length) → ∃ S', setCells S b (a + off) vs = some S' ∧ St R (SlT v (l.set k x) :: A) S' ∧ S'.nx = S.nx ∧ ∀ j, j ≠ b → S'.h j = S.h j := by
    intro off vs x hm hx
    obtain ⟨S', k1, k2, k3⟩ := h5 off vs hm
    refine ⟨S', k1, ?_, k3⟩
    rw [encs_put l hk hm x hx] at k2
    unfold SlT
    rw [List.length_set]
    exact k2
  refine ⟨b, a, h1, h2, h3, h6, fun m hm => by simpa using h6 0 m (by omega), h7, fun vs x hx => ?_⟩
  have hvl : vs.length = esz := by rw [← hx, Enc.len]
  have := h7 0 vs x (by omega) (by rw [hx, hvl, Nat.zero_add, List.drop_of_length_le (by rw [Enc.len]; exact Nat.le_refl _)]; simp)
  simpa using this
end slt

end Go.Ax

/- The number of objects grows; calls that do not see all, by assertions. -/
namespace Go.Ax
open Enc (enc)

/-- What may become of a state: no object comes back, and what is read only stays. -/
structure Gr (S S' : AS) : Prop where
  nx : S.nx ≤ S'.nx
  gone : ∀ i, i < S.nx → S.h i = none → S'.h i = none
  ro : ∀ i o, i < S.nx → S.h i = some o → o.ro = true → S'.h i = some o

theorem Gr.refl (S : AS) : Gr S S := ⟨Nat.le_refl _, fun _ _ h => h, fun _ _ _ h _ => h⟩
theorem Gr.trans {S S1 S2 : AS} (h : Gr S S1) (k : Gr S1 S2) : Gr S S2 :=
  ⟨Nat.le_trans h.nx k.nx, fun i hi hn => k.gone i (Nat.lt_of_lt_of_le hi h.nx) (h.gone i hi hn), fun i o hi ho hr => k.ro i o (Nat.lt_of_lt_of_le hi h.nx) (h.ro i o hi ho hr) hr⟩
theorem Gr.set {S : AS} {b : Nat} {o : AObj} (h : S.h b = some o) (hr : o.ro = false) (x : Option AObj) : Gr S (S.set b x) := by
  refine ⟨Nat.le_refl _, fun i _ hn => ?_, fun i o' _ ho hr' => ?_⟩
  · rw [set_h, if_neg, hn]; intro e; subst e; rw [h] at hn; cases hn
  · rw [set_h, if_neg, ho]; intro e; subst e; rw [h] at ho; cases ho; rw [hr] at hr'; cases hr'
theorem Gr.new (S : AS) (o : AObj) : Gr S (S.new o) :=
  ⟨Nat.le_succ _, fun i hi hn => by rw [new_h, if_neg (by omega), hn], fun i o' hi ho _ => by rw [new_h, if_neg (by omega), ho]⟩

theorem setCells_gr {S S' : AS} {b o : Nat} {vs : List Value} (h : setCells S b o vs = some S') : Gr S S' := by
  unfold setCells at h
  split at h
  · rename_i hb
    split at h
    · cases h; exact Gr.set hb rfl _
    · cases h
  · cases h

theorem appV_gr {esz bytes : Nat} {S S' : AS} {s x v : Value} (h : appV esz bytes S s x = some (v, S')) : Gr S S' := by
  unfold appV at h
  split at h
  · cases h
  · split at h
    · split at h
      · split at h
        · split at h
          · cases h; exact Gr.refl _
          · cases h
        · split at h
          · cases h; exact Gr.refl _
          · rw [Option.map_eq_some_iff] at h
            obtain ⟨S1, h1, h2⟩ := h
            cases h2
            exact setCells_gr h1
      · split at h
        · split at h
          · cases h
          · split at h
            · split at h
              · rename_i hb
                split at h
                · cases h; exact (Gr.set hb rfl _).trans (Gr.new _ _)
                · cases h
              · cases h
            · cases h; exact Gr.new _ _
        · cases h
    · cases h

theorem copyV_gr {esz : Nat} {S S' : AS} {d s v : Value} (h : copyV esz S d s = some (v, S')) : Gr S S' := by
  unfold copyV at h
  split at h
  · split at h
    · cases h
    · split at h
      · cases h; exact Gr.refl _
      · rw [Option.map_eq_some_iff] at h
        obtain ⟨S1, h1, h2⟩ := h
        cases h2
        exact setCells_gr h1
  · split at h
    · cases h
    · cases h; exact Gr.refl _
  · cases h

theorem clearV_gr {z : List Value} {S S' : AS} {x : Value} (h : clearV z S x = some S') : Gr S S' := by
  unfold clearV at h
  split at h
  · cases h; exact Gr.refl _
  · exact setCells_gr h
  · cases h

theorem mkSl_gr {z : List Value} {b : Nat} {S S' : AS} {l c v : Value} (h : mkSl z b S l c = some (v, S')) : Gr S S' := by
  unfold mkSl at h
  split at h
  · split at h
    · cases h; exact Gr.new _ _
    · cases h
  · cases h

theorem updM_gr {kk : KK} {S S' : AS} {x k v : Value} (h : updM kk S x k v = some S') : Gr S S' := by
  unfold updM at h
  repeat' split at h
  all_goals first | (cases h; exact Gr.set (o := .map _ _) (by assumption) rfl _) | cases h

theorem delM_gr {kk : KK} {S S' : AS} {x k : Value} (h : delM kk S x k = some S') : Gr S S' := by
  unfold delM at h
  repeat' split at h
  all_goals first | (cases h; exact Gr.refl _) | (cases h; exact Gr.set (o := .map _ _) (by assumption) rfl _) | cases h

theorem entM_gr {kk : KK} {z : Value} {S S' : AS} {x k v : Value} (h : entM kk z S x k = some (v, S')) : Gr S S' := by
  unfold entM at h
  repeat' split at h
  all_goals first | (cases h; exact Gr.set (o := .map _ _) (by assumption) rfl _) | cases h

theorem entSt_gr {S S' : AS} {x k v : Value} (h : entSt S x k v = some S') : Gr S S' := by
  unfold entSt at h
  repeat' split at h
  all_goals first | (cases h; exact Gr.set (o := .map _ _) (by assumption) rfl _) | cases h

theorem step_gr {o : AOp} {ρ : Env} {S S' : AS} {v : Value} (h : step o ρ S = some (v, S')) : Gr S S' := by
  cases o <;> simp only [step] at h <;> repeat' split at h
  all_goals first
    | (cases h; done)
    | (cases h; first | exact Gr.refl _ | exact Gr.new _ _)
    | exact appV_gr h
    | exact copyV_gr h
    | exact mkSl_gr h
    | exact entM_gr h
    | (rw [Option.map_eq_some_iff] at h; obtain ⟨a, h1, h2⟩ := h; cases h2; first | exact Gr.refl _ | exact Gr.new _ _ | exact setCells_gr h1 | exact clearV_gr h1 | exact updM_gr h1 | exact delM_gr h1 | exact entSt_gr h1)

theorem Gr.join {S S1 : AS} {hid : List Nat} (h : Gr (S.hide hid) S1) : Gr S (S.join hid S1) := by
  refine ⟨h.nx, fun i hi hn => ?_, fun i o hi ho hr => ?_⟩
  · simp only [AS.join]
    split
    · exact hn
    · exact h.gone i hi (by rw [hide_h, hn]; simp)
  · simp only [AS.join]
    have : S.roAt i = true := by simp only [AS.roAt, ho, hr]
    rw [if_pos (by simp [this, hi]), ho]

/-- All that functions bring about comes of a state in a way that may be. -/
def Grow (Γ : Fns) : Prop := ∀ f a S Q, Γ f a S Q → Γ f a S fun v S' => Q v S' ∧ Gr S S'

theorem wpNext_nx {it : Value} {b : Bool} {S : AS} {K : Value → AS → Prop} (hw : wpNext it b S K) : wpNext it b S fun v S' => K v S' ∧ Gr S S' := by
  unfold wpNext at *
  split at hw
  · split at hw
    · split at hw
      · rename_i hc; rw [if_pos hc]; exact ⟨hw, Gr.set (o := .strIter _ _) (by assumption) rfl _⟩
      · rename_i hc; rw [if_neg hc]; exact ⟨hw, Gr.refl _⟩
    · exact ⟨hw, Gr.refl _⟩
    · split at hw
      · obtain ⟨h1, h2, h3⟩ := hw; exact ⟨h1, fun hh => ⟨h2 hh, Gr.refl _⟩, fun e he hs => ⟨h3 e he hs, Gr.set (o := .mapIter _ _ _ _) (by assumption) rfl _⟩⟩
      · exact hw
    · exact hw
  · exact hw

theorem wpOp_nx {Γ : Fns} (hΓ : Grow Γ) {o : AOp} {ρ : Env} {S : AS} {K : Value → AS → Prop} (hw : wpOp Γ o ρ S K) : wpOp Γ o ρ S fun v S' => K v S' ∧ Gr S S' := by
  have hplain : (match step o ρ S with | some (v, S') => K v S' | none => False) → (match step o ρ S with | some (v, S') => K v S' ∧ Gr S S' | none => False) := by
    intro hw
    split at hw
    · rename_i hs; exact ⟨hw, step_gr hs⟩
    · exact hw
  cases o with
  | call f args =>
    simp only [wpOp] at *
    split at hw
    · exact hΓ _ _ _ _ hw
    · exact hw
  | next it b =>
    simp only [wpOp] at *
    split at hw
    · exact wpNext_nx hw
    · exact hw
  | _ => exact hplain hw

theorem wpOps_nx {Γ : Fns} (hm : LeF Γ Γ) (hΓ : Grow Γ) {K : Env → AS → Prop} : ∀ {l : List AOper} {ρ : Env} {S : AS}, wpOps Γ l ρ S K → wpOps Γ l ρ S fun ρ' S' => K ρ' S' ∧ Gr S S'
  | [], _, _, hw => ⟨hw, Gr.refl _⟩
  | o :: r, ρ, S, hw => by
    simp only [wpOps] at *
    split at hw
    · exact hw
    · exact wpOps_nx hm hΓ hw
    · refine wpOp_mono hm (fun v S1 hh => ?_) (wpOp_nx hΓ hw)
      exact wpOps_mono hm (fun ρ S2 h2 => ⟨h2.1, hh.2.trans h2.2⟩) (wpOps_nx hm hΓ hh.1)

theorem wpDops_nx {Γ : Fns} (hm : LeF Γ Γ) (hΓ : Grow Γ) {K : Env → AS → Prop} : ∀ {l : List (AOper × List Nat)} {hist : List DRec} {ρ : Env} {S : AS}, wpDops Γ l hist ρ S K → wpDops Γ l hist ρ S fun ρ' S' => K ρ' S' ∧ Gr S S'
  | [], _, _, _, hw => ⟨hw, Gr.refl _⟩
  | (o, U) :: r, hist, ρ, S, hw => by
    simp only [wpDops] at *
    split at hw
    · exact hw
    · exact wpDops_nx hm hΓ hw
    · split at hw
      · rename_i hc
        rw [if_pos hc]
        refine wpOp_mono hm (fun v S1 hh => ?_) (wpOp_nx hΓ hw)
        exact wpDops_mono hm (fun ρ S2 h2 => ⟨h2.1, (Gr.join hh.2).trans h2.2⟩) (wpDops_nx hm hΓ hh.1)
      · rename_i hc
        rw [if_neg hc]
        split at hw
        · rename_i hs
          split at hw
          · rename_i hp
            rw [if_pos hp]
            exact wpDops_mono hm (fun ρ S2 h2 => ⟨h2.1, (step_gr hs).trans h2.2⟩) (wpDops_nx hm hΓ hw)
          · exact hw.elim
        · exact hw

theorem wpLoop_nx {b : Env → AS → (AExit → Env → AS → Prop) → Prop} (hm : ∀ ρ S K K', (∀ x ρ S, K x ρ S → K' x ρ S) → b ρ S K → b ρ S K') (hb : ∀ ρ S K, b ρ S K → b ρ S fun x ρ' S' => K x ρ' S' ∧ Gr S S') {K : AExit → Env → AS → Prop} : ∀ {n : Nat} {ρ : Env} {S : AS}, wpLoop b n ρ S K → wpLoop b n ρ S fun x ρ' S' => K x ρ' S' ∧ Gr S S'
  | 0, _, _, hw => hw.elim
  | n + 1, ρ, S, hw => by
    simp only [wpLoop] at *
    refine hm _ _ _ _ (fun x ρ' S' hh => ?_) (hb _ _ _ hw)
    obtain ⟨h1, h2⟩ := hh
    cases x with
    | normal => exact wpLoop_mono (b := b) (b' := b) hm (fun x ρ S h => ⟨h.1, h2.trans h.2⟩) (Nat.le_refl _) (wpLoop_nx hm hb h1)
    | exit id => exact ⟨h1, h2⟩
    | ret => exact ⟨h1, h2⟩

theorem wpC_nx {Γ : Fns} (hm : LeF Γ Γ) (hΓ : Grow Γ) {n : Nat} : ∀ {c : ACode} {ρ : Env} {S : AS} {K : AExit → Env → AS → Prop}, wpC Γ n c ρ S K → wpC Γ n c ρ S fun x ρ' S' => K x ρ' S' ∧ Gr S S' := by
  intro c
  induction c with
  | skip => intro ρ S K hw; exact ⟨hw, Gr.refl _⟩
  | reg live ops => intro ρ S K hw; exact wpOps_nx hm hΓ hw
  | dreg live ops => intro ρ S K hw; exact wpDops_nx hm hΓ hw
  | seq a b iha ihb =>
    intro ρ S K hw
    simp only [wpC] at *
    refine wpC_mono hm (Nat.le_refl _) (fun x ρ' S' hh => ?_) (iha hw)
    obtain ⟨h1, h2⟩ := hh
    cases x with
    | normal => exact wpC_mono hm (Nat.le_refl _) (fun x ρ S h => ⟨h.1, h2.trans h.2⟩) (ihb h1)
    | exit id => exact ⟨h1, h2⟩
    | ret => exact ⟨h1, h2⟩
  | cond c a b iha ihb =>
    intro ρ S K hw
    simp only [wpC] at *
    split at hw
    · split at hw
      · rename_i ht; rw [if_pos ht]; exact iha hw
      · rename_i ht; rw [if_neg ht]; exact ihb hw
    · exact hw
  | block id b ih =>
    intro ρ S K hw
    simp only [wpC] at *
    refine wpC_mono hm (Nat.le_refl _) (fun x ρ' S' hh => ?_) (ih hw)
    obtain ⟨h1, h2⟩ := hh
    cases x with
    | normal => exact ⟨h1, h2⟩
    | exit i =>
      simp only at h1 ⊢
      split at h1
      · rename_i hi; rw [if_pos hi]; exact ⟨h1, h2⟩
      · rename_i hi; rw [if_neg hi]; exact ⟨h1, h2⟩
    | ret => exact ⟨h1, h2⟩
  | loop b ih =>
    intro ρ S K hw
    simp only [wpC] at *
    exact wpLoop_nx (b := wpC Γ n b) (fun ρ S K K' h hw => wpC_mono hm (Nat.le_refl _) h hw) (fun ρ S K hw => ih hw) hw
  | exit id => intro ρ S K hw; exact ⟨hw, Gr.refl _⟩
  | ret => intro ρ S K hw; exact ⟨hw, Gr.refl _⟩

theorem wpF_nx (G : Nat → Option AFun) (X : Nat → List Value → Option Value) : ∀ k, Grow (wpF G X k)
  | 0 => fun f a S Q hw => hw.elim
  | k + 1 => fun f a S Q hw => by
    rw [wpF_succ] at *
    split at hw
    · refine wpC_mono (wpF_mono G X (Nat.le_refl _)) (Nat.le_refl _) (fun x ρ S' hp => ?_) (wpC_nx (wpF_mono G X (Nat.le_refl _)) (wpF_nx G X k) hw)
      obtain ⟨h1, h2⟩ := hp
      cases x <;> simp only [post] at * <;> (split at h1 <;> first | exact ⟨h1, h2⟩ | exact h1)
    · split at hw
      · exact ⟨hw, Gr.refl _⟩
      · exact hw

theorem Ev.nx {G : Nat → Option AFun} {X : Nat → List Value → Option Value} : Grow (Ev G X) := fun f a S Q ⟨k, hw⟩ => ⟨k, wpF_nx G X k f a S Q hw⟩

/-- A call that does not see what earlier operations, in either order with it, come to: what it needs stands ahead, what it does not see behind that. -/
theorem go_dcallS {G : Nat → Option AFun} {X : Nat → List Value → Option Value} {R : Nat → Option (List Value)} {ρ ρ' : Env} {S S' : AS} {Q : AExit → Env → AS → Prop} {b : ACode} {live : List Nat} {ops : List (AOper × List Nat)} {hist hist' : List DRec} (k : Nat) (r : Option (List DRec × Env × AS × List (AOper × List Nat))) {o : AOper} {U : List Nat} {rest : List (AOper × List Nat)} {f : Operand} {args : List Operand} {id : FuncId} {first cap : Array Value} {vs : List Value}
    (h : runDN k ops hist ρ S = r) (hr : r = some (hist', ρ', S', (o, U) :: rest)) (ho : o.op = .call f args) (hw : wantA ρ' o.guard = some true) (hf : ev ρ' f = some (.func (.func id) first cap)) (hv : evs ρ' args = some vs)
    (hid : List Nat) (hh : hidden S' (recs hist' U) = hid) (ps : List Asn) (es : List Asn) (A : List Asn) (H : St R (ps ++ es ++ A) S') (he : ∀ i ∈ hid, ∃ o, obj i o ∈ es)
    (hq : ∀ E : Asn, ∀ T, St R (ps ++ [E]) T → Ev G X id (first.toList ++ vs ++ cap.toList) T fun v S1 => ∃ qs, St R (qs ++ [E]) S1 ∧ ∀ J, St R (qs ++ es ++ A) J → wpD (Ev G X) live rest (hist' ++ [DRec.none]) (putE ρ' o.dst v) J b Q) : wpD (Ev G X) live ops hist ρ S b Q := by
  refine go_dcall k r h hr ho hw hf hv ?_
  rw [hh]
  -- what is behind, as it is
  have key : ∀ (ps : List Asn) (h : Hp), Star (ps ++ es ++ A) h → ∃ s : Nat → Bool, Star (es ++ A) (cutH h fun i => !s i) ∧ Star ps (cutH h s) := by
    intro ps h hs
    have := (Star.flat (ps := ps) (l := es ++ A)).2 (by simpa using hs)
    obtain ⟨s, h1, h2⟩ := this
    exact ⟨s, h2, h1⟩
  obtain ⟨s, k1, k2⟩ := key ps _ H.star
  have hdom : ∀ i ∈ hid, s i = false ∧ i < S'.nx := by
    intro i hi
    obtain ⟨o, ho⟩ := he i hi
    have h3 : ∀ (l : List Asn) (h : Hp), obj i o ∈ l → Star l h → h i = some o := by
      intro l
      induction l with
      | nil => intro h hm; simp at hm
      | cons P l ih =>
        rintro h hm ⟨t, t1, t2⟩
        rcases List.mem_cons.1 hm with rfl | hm
        · exact (cutH_some t1).2
        · exact (cutH_some (ih _ hm t2)).2
    obtain ⟨h4, h5⟩ := cutH_some (h3 _ _ (List.mem_append_left _ ho) k1)
    exact ⟨by simpa using h4, (nrS_some.1 h5).1⟩
  -- the rest that the call may not touch
  obtain ⟨g, hg⟩ : ∃ g : Hp, g = cutH (nrS S') (fun i => !s i && !hid.contains i) := ⟨_, rfl⟩
  have hT : St R (ps ++ [fun hh => ∀ i o, g i = some o → hh i = some o]) (S'.hide hid) := by
    refine ⟨Star.flat.1 ⟨s, ?_, ?_⟩, fun b' cs hb => ?_⟩
    · refine k2.sub fun i o ho => ?_
      obtain ⟨h1, h2⟩ := cutH_some ho
      have hni : i ∉ hid := fun hm => by have := (hdom i hm).1; rw [h1] at this; cases this
      simp only [cutH, h1, cond_true]
      obtain ⟨h3, h4, h5⟩ := nrS_some.1 h2
      exact nrS_some.2 ⟨h3, by rw [hide_h, if_neg (by simpa using hni)]; exact h4, h5⟩
    · refine ⟨fun _ => true, fun i o ho => ?_, trivial⟩
      rw [hg] at ho
      obtain ⟨h1, h2⟩ := cutH_some ho
      simp only [Bool.and_eq_true, Bool.not_eq_true'] at h1
      simp only [cutH, h1.1, Bool.not_false, cond_true]
      obtain ⟨h3, h4, h5⟩ := nrS_some.1 h2
      exact nrS_some.2 ⟨h3, by rw [hide_h, if_neg (by rw [h1.2]; simp)]; exact h4, h5⟩
    · obtain ⟨h1, h2⟩ := H.ro b' cs hb
      refine ⟨h1, ?_⟩
      rw [hide_h, if_neg, h2]
      intro hm
      obtain ⟨o, ho⟩ := he b' (by simpa using hm)
      have h3 : ∀ (l : List Asn) (h : Hp), obj b' o ∈ l → Star l h → h b' = some o := by
        intro l
        induction l with
        | nil => intro h hm; simp at hm
        | cons P l ih =>
          rintro h hm ⟨t, t1, t2⟩
          rcases List.mem_cons.1 hm with rfl | hm
          · exact (cutH_some t1).2
          · exact (cutH_some (ih _ hm t2)).2
      have h4 := (nrS_some.1 (h3 _ _ (List.mem_append_left _ (List.mem_append_right _ ho)) H.star)).2
      rw [h2] at h4
      obtain ⟨h5, h6⟩ := h4
      cases h5; cases h6
  refine Ev.mono G X _ _ _ _ _ ?_ (Ev.nx _ _ _ _ (hq _ _ hT))
  rintro v S1 ⟨⟨qs, hS1, hk⟩, hgr⟩
  have hro : ∀ b' cs, R b' = some cs → b' < (S'.join hid S1).nx ∧ (S'.join hid S1).h b' = some (.cells true cs) := fun b' cs hb => by
    obtain ⟨h1, h2⟩ := H.ro b' cs hb
    have := (Gr.join hgr).ro b' _ h1 h2 rfl
    exact ⟨Nat.lt_of_lt_of_le h1 (Gr.join hgr).nx, this⟩
  refine hk _ ⟨?_, hro⟩
  have hJ : ∀ i, hid.contains i = false → (S'.roAt i && decide (i < S'.nx)) = false → (S'.join hid S1).h i = S1.h i := fun i h1 h2 => by
    simp only [AS.join, h1, h2, Bool.or_self, Bool.false_eq_true, if_false]
  have hno : ∀ i o, nrS S1 i = some o → hid.contains i = false ∧ (S'.roAt i && decide (i < S'.nx)) = false := by
    intro i o ho
    obtain ⟨h3, h4, h5⟩ := nrS_some.1 ho
    constructor
    · cases hc : hid.contains i with
      | false => rfl
      | true =>
        have hm := hdom i (by simpa using hc)
        have := hgr.gone i hm.2 (by rw [hide_h, if_pos hc])
        rw [h4] at this; cases this
    · cases hc : (S'.roAt i && decide (i < S'.nx)) with
      | false => rfl
      | true =>
        simp only [Bool.and_eq_true, decide_eq_true_eq] at hc
        obtain ⟨hc1, hc2⟩ := hc
        cases hi : S'.h i with
        | none => simp only [AS.roAt, hi] at hc1; cases hc1
        | some o' =>
          have hr' : o'.ro = true := by simp only [AS.roAt, hi] at hc1; exact hc1
          by_cases hh : hid.contains i = true
          · have := hgr.gone i hc2 (by rw [hide_h, if_pos hh])
            rw [h4] at this; cases this
          · have := hgr.ro i o' hc2 (by rw [hide_h, if_neg hh, hi]) hr'
            rw [h4] at this; cases this
            rw [h5] at hr'; cases hr'
  obtain ⟨t, t1, u, u1, _⟩ := Star.flat.2 hS1.star
  rw [List.append_assoc]
  refine Star.flat.1 ⟨fun i => t i && !hid.contains i, ?_, ?_⟩
  · refine t1.sub fun i o ho => ?_
    obtain ⟨h1, h2⟩ := cutH_some ho
    obtain ⟨h3, h4⟩ := hno i o h2
    simp only [cutH, h1, h3, Bool.not_false, Bool.and_self, cond_true]
    obtain ⟨h5, h6, h7⟩ := nrS_some.1 h2
    exact nrS_some.2 ⟨h5, by rw [hJ i h3 h4]; exact h6, h7⟩
  · refine k1.sub fun i o ho => ?_
    obtain ⟨h1, h2⟩ := cutH_some ho
    obtain ⟨h5, h6, h7⟩ := nrS_some.1 h2
    by_cases hh : hid.contains i = true
    · simp only [cutH, hh, Bool.not_true, Bool.and_false, Bool.not_false, cond_true]
      refine nrS_some.2 ⟨Nat.lt_of_lt_of_le h5 (Gr.join hgr).nx, ?_, h7⟩
      simp only [AS.join, hh, Bool.true_or, if_true, h6]
    · have hh' : hid.contains i = false := by simpa using hh
      have hgi : g i = some o := by
        rw [hg]; simp only [cutH, h1, hh', Bool.not_false, Bool.and_self, cond_true]; exact h2
      obtain ⟨h8, h9⟩ := cutH_some (u1 i o hgi)
      obtain ⟨h10, h11⟩ := cutH_some h9
      have ht : t i = false := by simpa using h10
      simp only [cutH, ht, Bool.false_and, Bool.not_false, cond_true]
      obtain ⟨h12, h13, h14⟩ := nrS_some.1 h11
      obtain ⟨h15, h16⟩ := hno i o h11
      exact nrS_some.2 ⟨h12, by rw [hJ i h15 h16]; exact h13, h14⟩

end Go.Ax

/- Maps by numbers, as assertions. -/
namespace Go.Ax
open Enc (enc)

/-- A map's entries, and what they stand for. -/
def MapOk {β : Type} (f : β → Value) (es : List MapEntry) (clock : Nat) (m : List (Int × β)) : Prop :=
  es.map (fun e => (e.key, e.val)) = m.map (fun p => (Value.int .i64 p.1, f p.2)) ∧ (m.map (·.1)).Nodup ∧ (es.map (·.born)).Nodup ∧ ∀ e ∈ es, e.born < clock

def MapI {β : Type} (f : β → Value) (i : Nat) (m : List (Int × β)) : Asn := fun h => ∃ es clock, h i = some (.map es clock) ∧ MapOk f es clock m

/-- Put in, or put in the place of what was there. -/
def ups {β : Type} : List (Int × β) → Int → β → List (Int × β)
  | [], k, v => [(k, v)]
  | p :: m, k, v => if p.1 = k then (k, v) :: m else p :: ups m k v

def dele {β : Type} (m : List (Int × β)) (k : Int) : List (Int × β) := m.filter fun p => p.1 != k

theorem ups_mem {β : Type} {m : List (Int × β)} {k : Int} {v : β} : ∀ x, x ∈ (ups m k v).map (·.1) ↔ x = k ∨ x ∈ m.map (·.1) := by
  induction m with
  | nil => intro x; simp [ups]
  | cons p m ih =>
    intro x
    simp only [ups]
    split
    · rename_i e; subst e; simp
    · rw [List.map_cons, List.mem_cons, ih, List.map_cons, List.mem_cons]
      constructor
      · rintro (h | h | h) <;> simp [h]
      · rintro (h | h | h) <;> simp [h]

theorem ups_nodup {β : Type} {m : List (Int × β)} {k : Int} {v : β} (h : (m.map (·.1)).Nodup) : ((ups m k v).map (·.1)).Nodup := by
  induction m with
  | nil => simp [ups]
  | cons p m ih =>
    rw [List.map_cons, List.nodup_cons] at h
    simp only [ups]
    split
    · rename_i e; subst e; rw [List.map_cons, List.nodup_cons]; exact h
    · rename_i e
      rw [List.map_cons, List.nodup_cons]
      refine ⟨fun hm => ?_, ih h.2⟩
      rcases (ups_mem _).1 hm with h1 | h1
      · exact e h1
      · exact h.1 h1

theorem lookup_ups {β : Type} (m : List (Int × β)) (k k' : Int) (v : β) : (ups m k v).lookup k' = if k' = k then some v else m.lookup k' := by
  induction m with
  | nil =>
    simp only [ups, List.lookup]
    by_cases e : k' = k
    · simp [e]
    · have : (k' == k) = false := by simpa using e
      simp [e, this]
  | cons p m ih =>
    obtain ⟨a, b⟩ := p
    simp only [ups]
    split
    · rename_i e; subst e
      simp only [List.lookup]
      by_cases e : k' = a
      · simp [e]
      · have : (k' == a) = false := by simpa using e
        simp [e, this]
    · rename_i e
      simp only [List.lookup]
      by_cases e2 : k' = a
      · subst e2
        have e' : ¬ k' = k := e
        simp [e']
      · have : (k' == a) = false := by simpa using e2
        simp only [this, ih]

theorem lookup_dele {β : Type} (m : List (Int × β)) (k k' : Int) : (dele m k).lookup k' = if k' = k then none else m.lookup k' := by
  induction m with
  | nil => simp [dele]
  | cons p m ih =>
    obtain ⟨a, b⟩ := p
    unfold dele at ih ⊢
    rw [List.filter_cons]
    by_cases e : a = k
    · subst e
      simp only [bne_self_eq_false, Bool.false_eq_true, if_false, ih, List.lookup]
      by_cases e2 : k' = a
      · simp [e2]
      · have : (k' == a) = false := by simpa using e2
        simp [e2, this]
    · have : (a != k) = true := by simpa using e
      simp only [this, if_true, List.lookup]
      by_cases e2 : k' = a
      · subst e2; simp [e]
      · have : (k' == a) = false := by simpa using e2
        simp only [this, ih]

theorem lookup_none {β : Type} {m : List (Int × β)} {k : Int} : m.lookup k = none ↔ k ∉ m.map (·.1) := by
  induction m with
  | nil => simp
  | cons p m ih =>
    obtain ⟨a, b⟩ := p
    simp only [List.lookup]
    by_cases e : k = a
    · subst e; simp
    · have : (k == a) = false := by simpa using e
      simp only [this, ih, List.map_cons, List.mem_cons, e, false_or]

theorem ups_none {β : Type} {m : List (Int × β)} {k : Int} (v : β) (h : m.lookup k = none) : ups m k v = m ++ [(k, v)] := by
  have h1 := lookup_none.1 h
  clear h
  induction m with
  | nil => rfl
  | cons p m ih =>
    simp only [List.map_cons, List.mem_cons, not_or] at h1
    simp only [ups]
    rw [if_neg (fun e => h1.1 e.symm), ih h1.2]
    rfl

theorem dele_none {β : Type} {m : List (Int × β)} {k : Int} (h : m.lookup k = none) : dele m k = m := by
  rw [lookup_none] at h
  unfold dele
  rw [List.filter_eq_self]
  intro p hp
  simp only [bne_iff_ne, ne_eq]
  intro e; subst e
  exact h (List.mem_map_of_mem hp)

theorem dele_nodup {β : Type} {m : List (Int × β)} {k : Int} (h : (m.map (·.1)).Nodup) : ((dele m k).map (·.1)).Nodup :=
  List.Nodup.sublist (List.Sublist.map _ List.filter_sublist) h

theorem ups_len {β : Type} (m : List (Int × β)) (k : Int) (v : β) : (ups m k v).length = if m.lookup k = none then m.length + 1 else m.length := by
  induction m with
  | nil => simp [ups]
  | cons p m ih =>
    obtain ⟨a, b⟩ := p
    simp only [ups, List.lookup]
    by_cases e : a = k
    · subst e; simp
    · have : (k == a) = false := by simpa using fun h => e h.symm
      simp only [e, if_false, this, List.length_cons, ih]
      split <;> omega

/-- Where an entry is. -/
theorem findE_ok {β : Type} {f : β → Value} (k : Int) : ∀ {es : List MapEntry} {m : List (Int × β)} (j : Nat), es.map (fun e => (e.key, e.val)) = m.map (fun p => (Value.int .i64 p.1, f p.2)) → (m.map (·.1)).Nodup →
    (m.lookup k = none ∧ findE .int (.int .i64 k) es j = some none) ∨
    ∃ i v, m.lookup k = some v ∧ findE .int (.int .i64 k) es j = some (some (j + i, f v)) ∧ i < es.length ∧
      (∀ w g, (modE es i fun e => { e with key := .int .i64 k, val := w }).map (fun e => (e.key, e.val)) = (ups m k g).map (fun p => (Value.int .i64 p.1, f p.2)) ∨ w ≠ f g) ∧ (es.eraseIdx i).map (fun e => (e.key, e.val)) = (dele m k).map (fun p => (Value.int .i64 p.1, f p.2)) ∧
      (modE es i fun e => { e with key := .int .i64 k }).map (fun e => (e.key, e.val)) = m.map (fun p => (Value.int .i64 p.1, f p.2))
  | [], [], j, _, _ => .inl ⟨rfl, rfl⟩
  | [], _ :: _, j, h, _ => by simp at h
  | _ :: _, [], j, h, _ => by simp at h
  | e :: es, p :: m, j, h, hn => by
    obtain ⟨a, b⟩ := p
    simp only [List.map_cons, List.cons.injEq, Prod.mk.injEq] at h
    obtain ⟨⟨hk, hv⟩, ht⟩ := h
    rw [List.map_cons, List.nodup_cons] at hn
    have hfind : findE .int (.int .i64 k) (e :: es) j = if k = a then some (some (j, e.val)) else findE .int (.int .i64 k) es (j + 1) := by
      simp only [findE, hk, keyEqK, if_true]
      by_cases e2 : k = a
      · subst e2; simp
      · have : (k == a) = false := by simpa using e2
        simp only [this, e2, if_false]
    by_cases e2 : k = a
    · subst e2
      right
      refine ⟨0, b, by simp [List.lookup], by rw [hfind, if_pos rfl, hv]; rfl, by simp, fun w g => ?_, ?_, ?_⟩
      · by_cases hw : w = f g
        · left
          subst hw
          simp only [modE, List.modify_zero_cons, List.map_cons, ups, if_true, ht]
        · exact .inr hw
      · rw [List.eraseIdx_cons_zero, ht]
        congr 1
        symm
        unfold dele
        rw [List.filter_cons_of_neg (by simp), List.filter_eq_self]
        intro p hp
        simp only [bne_iff_ne, ne_eq]
        intro e
        exact hn.1 (e ▸ List.mem_map_of_mem (f := (·.1)) hp)
      · simp only [modE, List.modify_zero_cons, List.map_cons, ht, hv]
    · have hb : (k == a) = false := by simpa using e2
      rw [hfind, if_neg e2]
      rcases findE_ok k (j + 1) ht hn.2 with ⟨h1, h2⟩ | ⟨i, v, h1, h2, h3, h4, h5, h6⟩
      · exact .inl ⟨by simp only [List.lookup, hb]; exact h1, h2⟩
      · right
        refine ⟨i + 1, v, by simp only [List.lookup, hb]; exact h1, by rw [h2]; congr 3; omega, by simpa using h3, fun w g => ?_, ?_, ?_⟩
        · rcases h4 w g with h4 | h4
          · left
            have e3 : ¬ a = k := fun h => e2 h.symm
            simp only [modE, List.modify_succ_cons, List.map_cons, ups, e3, if_false] at h4 ⊢
            rw [h4, hk, hv]
          · exact .inr h4
        · rw [List.eraseIdx_cons_succ, List.map_cons, h5, hk, hv]
          unfold dele
          rw [List.filter_cons_of_pos (by simpa using fun h => e2 h.symm)]
          rfl
        · simp only [modE, List.modify_succ_cons, List.map_cons] at h6 ⊢
          rw [h6, hk, hv]

theorem mod_born {es : List MapEntry} {i : Nat} {g : MapEntry → MapEntry} (hg : ∀ e, (g e).born = e.born) : (modE es i g).map (·.born) = es.map (·.born) := by
  unfold modE
  induction es generalizing i with
  | nil => simp
  | cons e es ih => cases i <;> simp [hg, ih]

theorem mod_lt {es : List MapEntry} {i clock : Nat} {g : MapEntry → MapEntry} (hg : ∀ e, (g e).born = e.born) (h : ∀ e ∈ es, e.born < clock) : ∀ e ∈ modE es i g, e.born < clock := by
  intro e he
  have h1 : e.born ∈ (modE es i g).map (·.born) := List.mem_map_of_mem he
  rw [mod_born hg] at h1
  obtain ⟨e', h2, h3⟩ := List.mem_map.1 h1
  rw [← h3]; exact h _ h2

section maps
variable {R : Nat → Option (List Value)} {A : List Asn} {S : AS} {β : Type} {f : β → Value} {i : Nat} {m : List (Int × β)}

theorem MapI.open' (h : St R (MapI f i m :: A) S) : ∃ es clock, MapOk f es clock m ∧ St R (obj i (.map es clock) :: A) S := by
  obtain ⟨⟨s, ⟨es, clock, h1, h2⟩, h3⟩, h4⟩ := h
  exact ⟨es, clock, h2, ⟨s, h1, h3⟩, h4⟩

theorem MapI.close {es : List MapEntry} {clock : Nat} (h : St R (obj i (.map es clock) :: A) S) (hm : MapOk f es clock m) : St R (MapI f i m :: A) S :=
  h.imp fun _ k => ⟨es, clock, k, hm⟩

theorem MapI.nil (h : St R A S) (f : β → Value) : St R (MapI f S.nx [] :: A) (S.new (.map [] 0)) :=
  MapI.close (h.new _ rfl) ⟨rfl, by simp, by simp, by simp⟩

theorem MapI.lookup (h : St R (MapI f i m :: A) S) (z : Value) (k : Int) (ok : Bool) :
    lookM .int z S (.map (some i)) (.int .i64 k) ok = some (match m.lookup k with | some v => if ok then .tuple #[f v, .bool true] else f v | none => if ok then .tuple #[z, .bool false] else z) := by
  obtain ⟨es, clock, hm, h⟩ := MapI.open' h
  simp only [lookM, h.get]
  rcases findE_ok (f := f) k 0 hm.1 hm.2.1 with ⟨h1, h2⟩ | ⟨j, v, h1, h2, _⟩ <;> simp only [h1, h2]

theorem MapI.len (h : St R (MapI f i m :: A) S) : lenV .map S (.map (some i)) = some (.int .i64 m.length) := by
  obtain ⟨es, clock, hm, h⟩ := MapI.open' h
  simp only [lenV, h.get]
  have := congrArg List.length hm.1
  simp only [List.length_map] at this
  rw [this]

theorem MapI.upd (h : St R (MapI f i m :: A) S) (k : Int) (v : β) : ∃ S', updM .int S (.map (some i)) (.int .i64 k) (f v) = some S' ∧ St R (MapI f i (ups m k v) :: A) S' ∧ S'.nx = S.nx ∧ ∀ j, j ≠ i → S'.h j = S.h j := by
  obtain ⟨es, clock, hm, h⟩ := MapI.open' h
  simp only [updM, h.get]
  rcases findE_ok (f := f) k 0 hm.1 hm.2.1 with ⟨h1, h2⟩ | ⟨j, w, h1, h2, h3, h4, h5, _⟩
  · simp only [h2]
    refine ⟨_, rfl, MapI.close (St.set h _ rfl) ⟨?_, ups_nodup hm.2.1, ?_, ?_⟩, rfl, fun j hj => by rw [set_h, if_neg hj]⟩
    · have := ups_none v h1
      rw [this, List.map_append, List.map_append, hm.1]; rfl
    · rw [List.map_append, List.nodup_append]
      refine ⟨hm.2.2.1, by simp, fun a ha b hb => ?_⟩
      simp only [List.map_cons, List.map_nil, List.mem_singleton] at hb
      obtain ⟨e, h3, rfl⟩ := List.mem_map.1 ha
      have := hm.2.2.2 e h3
      omega
    · intro e he
      rcases List.mem_append.1 he with he | he
      · exact Nat.lt_succ_of_lt (hm.2.2.2 e he)
      · simp only [List.mem_singleton] at he; subst he; exact Nat.lt_succ_self _
  · simp only [h2]
    rw [Nat.zero_add]
    refine ⟨_, rfl, MapI.close (St.set h _ rfl) ⟨?_, ups_nodup hm.2.1, ?_, mod_lt (by intro _; rfl) hm.2.2.2⟩, rfl, fun j hj => by rw [set_h, if_neg hj]⟩
    · rcases h4 (f v) v with h4 | h4
      · exact h4
      · exact absurd rfl h4
    · rw [mod_born (by intro _; rfl)]; exact hm.2.2.1

theorem MapI.del (h : St R (MapI f i m :: A) S) (k : Int) : ∃ S', delM .int S (.map (some i)) (.int .i64 k) = some S' ∧ St R (MapI f i (dele m k) :: A) S' ∧ S'.nx = S.nx ∧ ∀ j, j ≠ i → S'.h j = S.h j := by
  obtain ⟨es, clock, hm, h⟩ := MapI.open' h
  simp only [delM, h.get]
  rcases findE_ok (f := f) k 0 hm.1 hm.2.1 with ⟨h1, h2⟩ | ⟨j, w, h1, h2, h3, h4, h5, _⟩
  · simp only [h2]
    refine ⟨_, rfl, ?_, rfl, fun j hj => by rw [set_h, if_neg hj]⟩
    rw [dele_none h1]
    exact MapI.close (St.set h _ rfl) hm
  · simp only [h2]
    rw [Nat.zero_add]
    refine ⟨_, rfl, MapI.close (St.set h _ rfl) ⟨h5, dele_nodup hm.2.1, ?_, fun e he => hm.2.2.2 e (List.mem_of_mem_eraseIdx he)⟩, rfl, fun j hj => by rw [set_h, if_neg hj]⟩
    exact List.Nodup.sublist (List.Sublist.map _ (List.eraseIdx_sublist _ _)) hm.2.2.1

/-- A map while one of its entries is worked on. -/
def MapE {β : Type} (f : β → Value) (i : Nat) (m : List (Int × β)) (k : Int) (st : Nat) : Asn := fun h => ∃ es clock, h i = some (.map es clock) ∧ ∃ (j : Nat), es.findIdx? (fun e => (e.born : Int) == st) = some j ∧ ∀ v, MapOk f (modE es j fun e => { e with val := f v }) clock (ups m k v)

theorem MapE.open' {k : Int} {st : Nat} (h : St R (MapE f i m k st :: A) S) (v : β) : ∃ S', entSt S (.map (some i)) (.int .i64 st) (f v) = some S' ∧ St R (MapI f i (ups m k v) :: A) S' ∧ S'.nx = S.nx ∧ ∀ j, j ≠ i → S'.h j = S.h j := by
  obtain ⟨⟨s, ⟨es, clock, h1, j, h2, h3⟩, h4⟩, h5⟩ := h
  have h6 : St R (obj i (.map es clock) :: A) S := ⟨⟨s, h1, h4⟩, h5⟩
  simp only [entSt, h6.get, h2]
  exact ⟨_, rfl, MapI.close (St.set h6 _ rfl) (h3 v), rfl, fun j hj => by rw [set_h, if_neg hj]⟩

theorem MapE.close {k : Int} {st : Nat} {es : List MapEntry} {clock j : Nat} (h : St R (obj i (.map es clock) :: A) S) (h1 : es.findIdx? (fun e => (e.born : Int) == st) = some j) (h2 : ∀ v, MapOk f (modE es j fun e => { e with val := f v }) clock (ups m k v)) : St R (MapE f i m k st :: A) S :=
  h.imp fun _ hk => ⟨es, clock, hk, j, h1, h2⟩

theorem findIdx_born {es : List MapEntry} (h : (es.map (·.born)).Nodup) {j : Nat} (hj : j < es.length) : es.findIdx? (fun e => (e.born : Int) == (es[j].born : Nat)) = some j := by
  rw [List.findIdx?_eq_some_iff_getElem]
  refine ⟨hj, by simp, fun k hk => ?_⟩
  intro e
  have e1 : es[k].born = es[j].born := by simp only [beq_iff_eq] at e; omega
  have h2 := List.pairwise_iff_getElem.1 h k j (by simp; omega) (by simpa using hj) hk
  simp only [List.getElem_map] at h2
  exact h2 e1

theorem MapI.ent (h : St R (MapI f i m :: A) S) (z : β) (k : Int) : ∃ st S', entM .int (f z) S (.map (some i)) (.int .i64 k) = some (.tuple #[f ((m.lookup k).getD z), .int .i64 (st : Nat)], S') ∧ St R (MapE f i m k st :: A) S' ∧ S'.nx = S.nx ∧ ∀ j, j ≠ i → S'.h j = S.h j := by
  obtain ⟨es, clock, hm, h⟩ := MapI.open' h
  simp only [entM, h.get]
  rcases findE_ok (f := f) k 0 hm.1 hm.2.1 with ⟨h1, h2⟩ | ⟨j, w, h1, h2, h3, h4, h5, h6⟩
  · simp only [h1, h2, Option.getD_none]
    refine ⟨clock, S.set i (some (.map (es ++ [{ key := .int .i64 k, val := f z, born := clock }]) (clock + 1))), rfl, ?_, rfl, fun j hj => by rw [set_h, if_neg hj]⟩
    refine MapE.close (j := es.length) (St.set h (.map (es ++ [{ key := .int .i64 k, val := f z, born := clock }]) (clock + 1)) rfl) ?_ (fun v => ?_)
    · rw [List.findIdx?_append]
      have : es.findIdx? (fun e => (e.born : Int) == clock) = none := by
        rw [List.findIdx?_eq_none_iff]
        intro e he
        have := hm.2.2.2 e he
        simp; omega
      rw [this]
      simp
    · have hmod : modE (es ++ [{ key := Value.int .i64 k, val := f z, born := clock }]) es.length (fun e => { e with val := f v }) = es ++ [{ key := .int .i64 k, val := f v, born := clock }] := by
        unfold modE
        clear hm h h2 h1
        induction es with
        | nil => rfl
        | cons e es ih => rw [List.cons_append, List.length_cons, List.modify_succ_cons, ih, List.cons_append]
      rw [hmod]
      have hu := ups_none v h1
      refine ⟨?_, ups_nodup hm.2.1, ?_, ?_⟩
      · rw [hu, List.map_append, List.map_append, hm.1]; rfl
      · rw [List.map_append, List.nodup_append]
        refine ⟨hm.2.2.1, by simp, fun a ha b hb => ?_⟩
        simp only [List.map_cons, List.map_nil, List.mem_singleton] at hb
        obtain ⟨e, h3, rfl⟩ := List.mem_map.1 ha
        have := hm.2.2.2 e h3
        omega
      · intro e he
        rcases List.mem_append.1 he with he | he
        · exact Nat.lt_succ_of_lt (hm.2.2.2 e he)
        · simp only [List.mem_singleton] at he; subst he; exact Nat.lt_succ_self _
  · simp only [h1, h2, Option.getD_some]
    rw [Nat.zero_add]
    have hb : ((es[j]?).map (·.born)).getD 0 = es[j].born := by rw [List.getElem?_eq_getElem h3]; rfl
    refine ⟨es[j].born, S.set i (some (.map (modE es j fun e => { e with key := .int .i64 k }) clock)), by rw [hb], ?_, rfl, fun j hj => by rw [set_h, if_neg hj]⟩
    refine MapE.close (j := j) (St.set h (.map (modE es j fun e => { e with key := .int .i64 k }) clock) rfl) ?_ (fun v => ?_)
    · have h7 : (modE es j fun e => { e with key := Value.int .i64 k })[j]'(by simpa [modE] using h3) = { es[j] with key := .int .i64 k } := by simp [modE]
      have := findIdx_born (es := modE es j fun e => { e with key := Value.int .i64 k }) (by rw [mod_born (by intro _; rfl)]; exact hm.2.2.1) (j := j) (by simpa [modE] using h3)
      rw [h7] at this
      exact this
    · have hmod : modE (modE es j fun e => { e with key := Value.int .i64 k }) j (fun e => { e with val := f v }) = modE es j fun e => { e with key := .int .i64 k, val := f v } := by
        unfold modE
        rw [List.modify_modify_eq]
        rfl
      rw [hmod]
      refine ⟨?_, ups_nodup hm.2.1, ?_, mod_lt (by intro _; rfl) hm.2.2.2⟩
      · rcases h4 (f v) v with h4 | h4
        · exact h4
        · exact absurd rfl h4
      · rw [mod_born (by intro _; rfl)]; exact hm.2.2.1
end maps

end Go.Ax

