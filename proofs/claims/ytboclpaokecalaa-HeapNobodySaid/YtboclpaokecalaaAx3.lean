/- More of the same. -/
import Derived.Test.YtboclpaokecalaaAx2
/- Regions whose order is open: the temporaries, and one item done in its turn. -/
namespace Go.Ax
variable {P : Program}

theorem keepE_look {ρ : Env} {t : Nat} : ∀ {l : List Nat}, t ∈ l → look (keepE ρ l) t = look ρ t
  | x :: r, h => by
    simp only [keepE]
    by_cases hx : t = x
    · subst hx
      cases hl : look ρ t with
      | some v => simp [look]
      | none =>
        simp only
        by_cases hm : t ∈ r
        · rw [keepE_look hm, hl]
        · have : ∀ l : List Nat, t ∉ l → look (keepE ρ l) t = none := by
            intro l
            induction l with
            | nil => intro _; rfl
            | cons y l ih =>
              intro hn
              simp only [List.mem_cons, not_or] at hn
              simp only [keepE]
              split
              · simp only [look, if_neg hn.1]; exact ih hn.2
              · exact ih hn.2
          exact this r hm
    · have hm : t ∈ r := by rcases List.mem_cons.1 h with h | h; exact absurd h hx; exact h
      split
      · simp only [look, if_neg hx]; exact keepE_look hm
      · exact keepE_look hm

theorem keepE_mem {ρ : Env} {t : Nat} {v : Value} : ∀ {l : List Nat}, look (keepE ρ l) t = some v → t ∈ l ∧ look ρ t = some v
  | [], h => by simp [keepE, look] at h
  | x :: r, h => by
    simp only [keepE] at h
    split at h
    · rename_i u hu
      simp only [look] at h
      split at h
      · rename_i hx; subst hx; cases h; exact ⟨by simp, hu⟩
      · obtain ⟨h1, h2⟩ := keepE_mem h; exact ⟨by simp [h1], h2⟩
    · obtain ⟨h1, h2⟩ := keepE_mem h; exact ⟨by simp [h1], h2⟩

theorem put_getD {a : Act} {d : Option Nat} {u : Value} {N : Nat} (hs : N ≤ a.tmps.size) (hd : ∀ t, d = some t → t < N) (t : Nat) : (a.put d u).tmps.getD t undef = if d = some t then u else a.tmps.getD t undef := by
  cases d with
  | none => simp [Act.put]
  | some k =>
    have hk := hd k rfl
    have hlt : k < a.tmps.size := Nat.lt_of_lt_of_le hk hs
    by_cases h : k = t
    · subst h; simp [Act.put, hlt]
    · simp [Act.put, Array.getElem?_setIfInBounds_ne h, h]

theorem look_putE (ρ : Env) (d : Option Nat) (v : Value) (t : Nat) : look (putE ρ d v) t = if d = some t then some v else look ρ t := by
  cases d with
  | none => simp [putE]
  | some k =>
    simp only [putE, look]
    by_cases h : t = k
    · subst h; simp
    · simp [h, Ne.symm h]

/-- The temporaries behind some items. -/
structure Tms (items : List DItem) (L : Nat → Bool) (tr : Tr) (ρ0 : Env) (μ : Mu) (N : Nat) (a : Act) : Prop where
  size : N ≤ a.tmps.size
  t1 : ∀ p it t, items[p]? = some it → L it.i = true → it.ao.dst = some t → VRel μ (tr.v p) (a.tmps.getD t undef)
  t0 : ∀ t u, (∀ (p : Nat) (it : DItem), items[p]? = some it → L it.i = true → it.ao.dst ≠ some t) → look ρ0 t = some u → VRel μ u (a.tmps.getD t undef)

theorem Good.env {items : List DItem} {L : Nat → Bool} {tr : Tr} {f : Nat} {ρ0 : Env} {S0 : AS} (g : Good items L tr f ρ0 S0) {t : Nat} {u : Value} : ∀ {j : Nat}, j ≤ f → look (tr.ρ j) t = some u →
    (∃ p it, p < j ∧ items[p]? = some it ∧ it.ao.dst = some t ∧ u = tr.v p) ∨ ((∀ p it, p < j → items[p]? = some it → it.ao.dst ≠ some t) ∧ look ρ0 t = some u)
  | 0, _, h => by rw [g.z1] at h; exact .inr ⟨fun p it hp => by omega, h⟩
  | j + 1, hj, h => by
    obtain ⟨x, hx⟩ := g.item (p := j) (by omega)
    rw [(g.ev j x (by omega) hx).env, look_putE] at h
    split at h
    · rename_i hd; cases h; exact .inl ⟨j, x, by omega, hx, hd, rfl⟩
    · rename_i hd
      rcases g.env (by omega) h with ⟨p, it, h1, h2⟩ | ⟨h1, h2⟩
      · exact .inl ⟨p, it, by omega, h2⟩
      · refine .inr ⟨fun p it hp hit => ?_, h2⟩
        by_cases hpj : p = j
        · subst hpj; rw [hx] at hit; cases hit; exact hd
        · exact h1 p it (by omega) hit

theorem apartA_spec {x y : AOper} (h : apartA x y = true) {t : Nat} : (x.dst = some t → t ∉ y.looks) ∧ (y.dst = some t → t ∉ x.looks) := by
  simp only [apartA, Bool.and_eq_true, Bool.not_eq_true'] at h
  constructor
  · intro hd; have := h.1; rw [hd] at this; simpa [inO] using this
  · intro hd; have := h.2; rw [hd] at this; simpa [inO] using this

/-- What an item looks at is as the one order has it. -/
theorem Tms.at {items : List DItem} {L : Nat → Bool} {tr : Tr} {f : Nat} {ρ0 : Env} {S0 : AS} {μ : Mu} {N : Nat} {a : Act} (h : Tms items L tr ρ0 μ N a) (g : Good items L tr f ρ0 S0) {j : Nat} {it : DItem} (hj : items[j]? = some it) (hjf : j ≤ f) (hn : L it.i = false) (ho : Off items L f j) :
    ERel μ N (keepE (tr.ρ j) it.ao.looks) a := by
  refine ⟨h.size, fun t u hu => ?_⟩
  obtain ⟨ht, hu⟩ := keepE_mem hu
  rcases g.env hjf hu with ⟨p, x, h1, h2, h3, rfl⟩ | ⟨h1, h2⟩
  · cases hl : L x.i with
    | true => exact h.t1 p x t h2 hl h3
    | false => exact absurd ht ((apartA_spec ((ho.before p x h1 h2 hl).2 it hj).1).1 h3)
  · refine h.t0 t u (fun p x hx hl hd => ?_) h2
    rcases Nat.lt_trichotomy p j with h3 | h3 | h3
    · exact h1 p x h3 hx hd
    · subst h3; rw [hj] at hx; cases hx; rw [hn] at hl; cases hl
    · exact (apartA_spec (ho.after p x h3 hx hl it hj).2.1).2 hd ht

theorem Chain.dst {N : Nat} {ops : Array Oper} {items : List DItem} (h : Chain P N ops items) {p q : Nat} {x y : DItem} (hp : items[p]? = some x) (hq : items[q]? = some y) {t : Nat} (hx : x.ao.dst = some t) (hy : y.ao.dst = some t) : p = q := by
  have key : ∀ {p q : Nat} {x y : DItem}, items[p]? = some x → items[q]? = some y → p < q → x.ao.dst = some t → y.ao.dst = some t → False := by
    intro p q x y hp hq hlt hx hy
    have := ((h.at hq).ne x (List.mem_of_getElem? (i := p) (by rw [List.getElem?_take_of_lt hlt]; exact hp))).2
    rw [hx, hy] at this
    simp [dstNe] at this
  rcases Nat.lt_trichotomy p q with hlt | heq | hgt
  · exact (key hp hq hlt hx hy).elim
  · exact heq
  · exact (key hq hp hgt hy hx).elim

def lst (L : Nat → Bool) (i : Nat) : Nat → Bool := fun k => L k || k == i

theorem Tms.put {items : List DItem} {L : Nat → Bool} {tr tr' : Tr} {ρ0 : Env} {μ μ' : Mu} {N : Nat} {a : Act} {ops : Array Oper} (hch : Chain P N ops items) (h : Tms items L tr ρ0 μ N a) (hs : Sub μ μ') {j : Nat} {it : DItem} (hj : items[j]? = some it)
    {v' : Value} (hv : VRel μ' (tr'.v j) v') (hd : ∀ t, it.ao.dst = some t → t < N) (hsame : ∀ p x, p ≠ j → items[p]? = some x → L x.i = true → tr'.v p = tr.v p) : Tms items (lst L it.i) tr' ρ0 μ' N (a.put it.ao.dst v') := by
  refine ⟨?_, fun p x t hx hl hdx => ?_, fun t u hno hu => ?_⟩
  · cases hdd : it.ao.dst <;> simp [Act.put, h.size]
  · rw [put_getD h.size hd]
    split
    · rename_i hd'
      have := hch.dst hx hj hdx hd'
      subst this
      exact hv
    · rename_i hd'
      by_cases hpj : p = j
      · subst hpj; rw [hj] at hx; cases hx; exact absurd hdx hd'
      · have hl' : L x.i = true := by
          simp only [lst, Bool.or_eq_true, beq_iff_eq] at hl
          rcases hl with hl | hl
          · exact hl
          · exact absurd (hch.inj hx hj hl) hpj
        rw [hsame p x hpj hx hl']
        exact (h.t1 p x t hx hl' hdx).mono hs
  · rw [put_getD h.size hd, if_neg (hno j it hj (by simp [lst]))]
    exact (h.t0 t u (fun p x hx hl => hno p x hx (by simp [lst, hl])) hu).mono hs

/-- Memory behind some items. -/
structure Mem (B : Nat) (items : List DItem) (L : Nat → Bool) (tr : Tr) (f : Nat) (S0 : AS) (μ0 μ : Mu) (w0 w : World) : Prop where
  rel : Rel B μ ⟨ov (lis items L) tr.S tr.up f, (tr.S f).nx⟩ w
  fr : Fr S0 ⟨ov (lis items L) tr.S tr.up f, (tr.S f).nx⟩ μ0 μ w0 w
  map : ∀ id x, μ id = some x → id < S0.nx ∨ ∃ p, p < f ∧ lis items L p = true ∧ (tr.S p).nx ≤ id ∧ id < (tr.S (p + 1)).nx

theorem Mem.bnd {B : Nat} {items : List DItem} {L : Nat → Bool} {tr : Tr} {f : Nat} {ρ0 : Env} {S0 : AS} {μ0 μ : Mu} {w0 w : World} (m : Mem B items L tr f S0 μ0 μ w0 w) (g : Good items L tr f ρ0 S0) {id : Nat} (h : (tr.S f).nx ≤ id) : μ id = none := by
  cases hm : μ id with
  | none => rfl
  | some x =>
    exfalso
    rcases m.map id x hm with h1 | ⟨p, h1, h2, h3, h4⟩
    · have := g.nx (p := 0) (q := f) (by omega) (Nat.le_refl _); rw [g.z2] at this; omega
    · have := g.nx (p := p + 1) (q := f) (by omega) (Nat.le_refl _); omega

theorem lis_lst {N : Nat} {ops : Array Oper} {items : List DItem} (hch : Chain P N ops items) {L : Nat → Bool} {j : Nat} {it : DItem} (hj : items[j]? = some it) : lis items (lst L it.i) j = true ∧ ∀ p, p ≠ j → lis items (lst L it.i) p = lis items L p := by
  refine ⟨by simp [lis, hj, lst], fun p hp => ?_⟩
  unfold lis
  cases hx : items[p]? with
  | none => rfl
  | some x =>
    simp only [lst]
    have : (x.i == it.i) = false := by
      simp only [beq_eq_false_iff_ne]
      exact fun h => hp (hch.inj hx hj h)
    simp [this]

end Go.Ax

/- Regions whose order is open: one item done, be it behind the one order or at its head. -/
namespace Go.Ax
variable {P : Program}

theorem Good.lst {N : Nat} {ops : Array Oper} {items : List DItem} (hch : Chain P N ops items) {L : Nat → Bool} {tr : Tr} {f : Nat} {ρ0 : Env} {S0 : AS} (g : Good items L tr f ρ0 S0) {j : Nat} {it : DItem} (hj : items[j]? = some it) (hjf : j < f) : Good items (Ax.lst L it.i) tr f ρ0 S0 where
  z1 := g.z1
  z2 := g.z2
  len := g.len
  ev := fun p x hp hx => (g.ev p x hp hx).listed fun i hi => by simp [Ax.lst, hi]
  lt := fun p x hx hl => by
    simp only [Ax.lst, Bool.or_eq_true, beq_iff_eq] at hl
    rcases hl with hl | hl
    · exact g.lt p x hx hl
    · rw [hch.inj hx hj hl]; exact hjf
  dom := g.dom

theorem cOper_spec {N : Nat} {ops : Array Oper} {o : Oper} {a : AOper} (h : cOper P N ops o = some a) : cOp P o = some a.op ∧ cGuard ops o.guard = some a.guard ∧ a.dst = o.dst ∧ ∀ t, o.dst = some t → t < N := by
  unfold cOper at h
  split at h
  · rename_i x y h1 h2
    split at h
    · rename_i hd
      cases h
      exact ⟨h1, h2, rfl, dst_lt hd⟩
    · cases h
  · cases h

theorem lis_mono {items : List DItem} {L : Nat → Bool} {i p : Nat} (h : lis items L p = true) : lis items (Ax.lst L i) p = true := by
  unfold lis at *
  split at h
  · simp [Ax.lst, h]
  · cases h

theorem exec_op {B N : Nat} {ops : Array Oper} {items : List DItem} (hch : Chain P N ops items) {L : Nat → Bool} {tr : Tr} {f : Nat} {ρ0 : Env} {S0 : AS} {μ0 μ : Mu} {w0 w : World} {a : Act} (g : Good items L tr f ρ0 S0) (m : Mem B items L tr f S0 μ0 μ w0 w) (t : Tms items L tr ρ0 μ N a)
    {j : Nat} {it : DItem} (hj : items[j]? = some it) (hjf : j < f) (hn : L it.i = false) (ho : Off items L f j) {K : Act → World → Prop} {Q : Exit → Act → World → Prop}
    (hK : ∀ a' w' μ', Good items (lst L it.i) tr f ρ0 S0 → Mem B items (lst L it.i) tr f S0 μ0 μ' w0 w' → Tms items (lst L it.i) tr ρ0 μ' N a' → a'.defers = a.defers → K a' w') : Go.wpOp P ops Q it.i K a w := by
  obtain ⟨o, ho1, ho2, _⟩ := (hch.at hj).op
  obtain ⟨hc, hgd, hdst, hdlt⟩ := cOper_spec ho2
  have hE := t.at g hj (Nat.le_of_lt hjf) hn ho
  obtain ⟨hcong, hwant⟩ := ev_looks (ρ := keepE (tr.ρ j) it.ao.looks) (ρ' := tr.ρ j) (a := it.ao) (fun t ht => keepE_look ht)
  have hg' := g.lst hch hj hjf
  obtain ⟨hlj, hlp⟩ := lis_lst hch (L := L) hj
  have hdefers : ∀ v', (a.put o.dst v').defers = a.defers := fun v' => by cases o.dst <;> rfl
  have hput : ∀ {μ' : Mu} {v' : Value}, Sub μ μ' → VRel μ' (tr.v j) v' → Tms items (lst L it.i) tr ρ0 μ' N (a.put o.dst v') := fun hs hv => by
    have := t.put (tr' := tr) hch hs hj hv (by rw [hdst]; exact hdlt) (fun _ _ _ _ _ => rfl)
    rwa [hdst] at this
  unfold Go.wpOp
  rw [ho1]
  simp only
  have hev := g.ev j it hjf hj
  have hev0 := hev
  cases hev with
  | skip hw hv hS hu hr hρ =>
    rw [want_sound hE hgd (hwant.trans hw)]
    simp only [Bool.false_eq_true, if_false]
    refine hK _ _ μ hg' ?_ (hput (fun _ _ h => h) (by rw [hv]; exact undef_rel μ)) (hdefers _)
    have hov : ov (lis items (lst L it.i)) tr.S tr.up f = ov (lis items L) tr.S tr.up f := by
      funext id
      rw [ov_exec hjf hlp hlj (fun h => by rw [hu] at h; cases h), hu]
      rfl
    refine ⟨by rw [hov]; exact m.rel, by rw [hov]; exact m.fr, fun id x h => ?_⟩
    rcases m.map id x h with h1 | ⟨p, h1, h2, h3⟩
    · exact .inl h1
    · exact .inr ⟨p, h1, lis_mono h2, h3⟩
  | op c hw hcl hs hS hok hwr hloc hu hr hpairs hρ =>
    rw [want_sound hE hgd (hwant.trans hw)]
    simp only [if_true]
    left
    obtain ⟨n, hn1, hn2, hn3⟩ : ∃ n, (n = (tr.S j).nx ∨ c.new = none) ∧ μ n = none ∧ (c.new.isSome = true → n = (tr.S j).nx) := by
      cases hcn : c.new with
      | none => exact ⟨(tr.S f).nx, .inr rfl, m.bnd g (Nat.le_refl _), by simp⟩
      | some x =>
        refine ⟨(tr.S j).nx, .inl rfl, ?_, fun _ => rfl⟩
        cases hm : μ (tr.S j).nx with
        | none => rfl
        | some y =>
          exfalso
          rcases m.map _ y hm with h1 | ⟨p, h1, h2, h3, h4⟩
          · have := g.nx (p := 0) (q := j) (by omega) (by omega); rw [g.z2] at this; omega
          · have e : (tr.S (j + 1)).nx = (tr.S j).nx + 1 := by rw [hS, Delta.app_nx, hcn]; rfl
            rcases Nat.lt_trichotomy p j with h5 | h5 | h5
            · have := g.nx (p := p + 1) (q := j) (by omega) (by omega); omega
            · subst h5; unfold lis at h2; rw [hj] at h2; simp only at h2; rw [hn] at h2; cases h2
            · have := g.nx (p := j + 1) (q := p) (by omega) (by omega); omega
    obtain ⟨T, hT⟩ : ∃ T : AS, T = ⟨fun id => if id ∈ idsE (tr.ρ j) it.ao.op.mems then (tr.S j).h id else none, n⟩ := ⟨_, rfl⟩
    have hTn : T.nx = n := by rw [hT]
    have hTh : ∀ id, T.h id = if id ∈ idsE (tr.ρ j) it.ao.op.mems then (tr.S j).h id else none := fun id => by rw [hT]
    have hstep : step it.ao.op (keepE (tr.ρ j) it.ao.looks) T = some (tr.v j, c.app T) := by
      rw [step_env hcong]
      exact hloc T (fun i hi => by rw [hTh, if_pos hi]) (by rw [hTn]; exact hn1)
    have hrel : (tr.S j).h = (tr.S j).h := rfl
    have hids : (tr.hs j).ids = idsE (tr.ρ j) it.ao.op.mems := by rw [hr]
    have hrelj : ∀ id, id ∈ idsE (tr.ρ j) it.ao.op.mems → it.ao.op.rel = true := fun id hid => by
      simp only [AOp.rel, Bool.or_eq_true, Bool.not_eq_true']
      left; left
      cases hm : it.ao.op.mems with
      | nil => rw [hm] at hid; simp [idsE] at hid
      | cons => rfl
    have hTH : ∀ id x, T.h id = some x → ov (lis items L) tr.S tr.up f id = some x := by
      intro id x hx
      rw [hTh] at hx
      split at hx
      · rename_i hid
        have hlt := g.dom j (Nat.le_of_lt hjf) id x hx
        rw [g.vis (j := j) (Nat.le_of_lt hjf) ?_ ?_]
        · exact hx
        · intro p y hp hy hl
          obtain ⟨k1, k2⟩ := ho.before p y hp hy hl
          have hevp := g.ev p y (by omega) hy
          cases hup : tr.up p id with
          | false => rfl
          | true =>
            exfalso
            have hU := (k2 it hj).2 (hrelj id hid) (hevp.rel hup)
            obtain ⟨q1, q2⟩ := okPair_at (List.all_eq_true.1 hpairs _ (tr.mem_recs hp hU)) hid
            rcases hevp.touch k1 hup with ⟨h1, h2, _⟩ | ⟨h1, h2, h3, h4⟩
            · exact q2 (.inr h2) h1
            · exact q1 ⟨by omega, by omega⟩
        · intro p h1 h2 hl
          by_cases hpj : p = j
          · subst hpj; unfold lis at hl; rw [hj] at hl; simp only at hl; rw [hn] at hl; cases hl
          · exact g.later hj ho (hrelj id hid) (.inl ⟨by rw [hids]; exact hid, hlt⟩) p (by omega) h2 hl
      · cases hx
    have rT : Rel B μ T w := m.rel.weaken hTH
    obtain ⟨v', μ', w', hrun, hv, hr', hf⟩ := step_sound rT (by rw [hTn]; exact hn2) hE hc hstep
    have hmem : Mem B items (lst L it.i) tr f S0 μ0 μ' w0 w' := by
      have halike := fun id => Delta.alike (c := c) (S := tr.S j) (T := T) (by rw [hTn]; exact hn1) id
      have hH : ∀ id, ov (lis items (lst L it.i)) tr.S tr.up f id = if tr.up j id then (c.app T).h id else ov (lis items L) tr.S tr.up f id := by
        intro id
        rw [ov_exec hjf hlp hlj]
        · by_cases h : tr.up j id = true
          · rw [if_pos h, if_pos h, hS, (halike id).2 (by rw [← hu]; exact h)]
          · rw [if_neg h, if_neg h]
        · intro h p h1 h2 hl
          refine g.later hj ho (hev0.rel h) ?_ p h1 h2 hl
          rcases hev0.touch hcl h with ⟨h3, _, _, x, h4⟩ | ⟨h3, h4, h5, h6⟩
          · exact .inl ⟨h3, g.dom j (Nat.le_of_lt hjf) id x h4⟩
          · exact .inr ⟨by omega, by omega, by omega⟩
      have hnew : ∀ id, T.nx ≤ id → id < (c.app T).nx → id = (tr.S j).nx ∧ (tr.S (j + 1)).nx = (tr.S j).nx + 1 := by
        intro id h1 h2
        rw [Delta.app_nx] at h2
        cases hcn : c.new with
        | none => rw [hcn] at h2; simp at h2; omega
        | some x =>
          rw [hcn] at h2
          simp at h2
          have := hn3 (by rw [hcn]; rfl)
          refine ⟨by omega, by rw [hS, Delta.app_nx, hcn]; rfl⟩
      refine ⟨?_, ?_, ?_⟩
      · exact over_rel (tr.up j) m.rel hr' hf hTH hH fun id x h1 h2 _ => by
          rw [Delta.keep (by rw [(halike id).1, ← hu]; exact h1)]; exact h2
      · refine over_fr (tr.up j) m.rel m.fr hf hTH hH (Nat.le_refl _) fun id h1 h2 => ?_
        obtain ⟨k1, k2⟩ := hnew id h1 h2
        have e1 := g.nx (p := 0) (q := j) (by omega) (by omega)
        have e2 := g.nx (p := j + 1) (q := f) (by omega) (by omega)
        rw [g.z2] at e1
        omega
      · intro id x h
        cases hm : μ id with
        | some y =>
          rcases m.map id y hm with h1 | ⟨p, h1, h2, h3⟩
          · exact .inl h1
          · exact .inr ⟨p, h1, lis_mono h2, h3⟩
        | none =>
          obtain ⟨k1, k2⟩ := hf.fresh id x hm h
          obtain ⟨k3, k4⟩ := hnew id k1 k2
          exact .inr ⟨j, hjf, hlj, by omega, by omega⟩
    unfold Oper.wp
    rcases hrun with hrun | ⟨hrun, rfl⟩
    · rw [hrun]; exact hK _ _ μ' hg' hmem (hput hf.sub hv) (hdefers _)
    · rw [hrun]; exact hK _ _ μ' hg' hmem (hput hf.sub hv) (hdefers _)
  | call hL => rw [hn] at hL; cases hL

end Go.Ax

/- Regions whose order is open: the head of the one order goes on. -/
namespace Go.Ax
variable {P : Program}

def Tr.ext (tr : Tr) (f : Nat) (ρ : Env) (S : AS) (v : Value) (up : Nat → Bool) (r : DRec) : Tr :=
  ⟨upd tr.ρ (f + 1) ρ, upd tr.S (f + 1) S, upd tr.v f v, upd tr.up f up, upd tr.hs f r⟩

theorem Tr.ext_hist (tr : Tr) (f : Nat) (ρ : Env) (S : AS) (v : Value) (up : Nat → Bool) (r : DRec) {p : Nat} (h : p ≤ f) : (tr.ext f ρ S v up r).hist p = tr.hist p := by
  unfold Tr.hist
  refine List.map_congr_left fun x hx => ?_
  have := List.mem_range.1 hx
  exact upd_ne _ _ (by omega)

theorem Tr.ext_hist1 (tr : Tr) (f : Nat) (ρ : Env) (S : AS) (v : Value) (up : Nat → Bool) (r : DRec) : (tr.ext f ρ S v up r).hist (f + 1) = tr.hist f ++ [r] := by
  have := tr.ext_hist f ρ S v up r (Nat.le_refl f)
  unfold Tr.hist at *
  rw [List.range_succ, List.map_append, this]
  simp [Tr.ext, upd]

theorem Good.ext {items : List DItem} {L L' : Nat → Bool} {tr : Tr} {f : Nat} {ρ0 : Env} {S0 : AS} (g : Good items L tr f ρ0 S0) (hl : ∀ i, L i = true → L' i = true) (hlt : ∀ p x, items[p]? = some x → L' x.i = true → p < f + 1)
    {it : DItem} (hf : items[f]? = some it) {ρ : Env} {S : AS} {v : Value} {up : Nat → Bool} {r : DRec} (he : Ev1 L' it (recs (tr.hist f) it.U) (tr.ρ f) ρ (tr.S f) S v up r) (hd : ∀ id o, S.h id = some o → id < S.nx) :
    Good items L' (tr.ext f ρ S v up r) (f + 1) ρ0 S0 where
  z1 := by simp only [Tr.ext]; rw [upd_ne _ _ (by omega)]; exact g.z1
  z2 := by simp only [Tr.ext]; rw [upd_ne _ _ (by omega)]; exact g.z2
  len := by
    rcases Nat.lt_or_ge f items.length with h | h
    · exact h
    · rw [List.getElem?_eq_none h] at hf; cases hf
  ev := fun p x hp hx => by
    rw [tr.ext_hist f ρ S v up r (by omega)]
    simp only [Tr.ext]
    by_cases hpf : p = f
    · subst hpf
      rw [hf] at hx; cases hx
      rw [upd_ne _ _ (by omega), upd_self, upd_ne _ _ (by omega), upd_self, upd_self, upd_self, upd_self]
      exact he
    · rw [upd_ne _ _ (by omega), upd_ne _ _ (by omega), upd_ne _ _ (by omega), upd_ne _ _ (by omega), upd_ne _ _ (by omega), upd_ne _ _ (by omega), upd_ne _ _ (by omega)]
      exact (g.ev p x (by omega) hx).listed hl
  lt := hlt
  dom := fun p hp id o ho => by
    simp only [Tr.ext] at ho ⊢
    by_cases hpf : p = f + 1
    · subst hpf; rw [upd_self] at ho ⊢; exact hd id o ho
    · rw [upd_ne _ _ hpf] at ho ⊢; exact g.dom p (by omega) id o ho

theorem ov_congr {l l' : Nat → Bool} {S S' : Nat → AS} {up up' : Nat → Nat → Bool} {id : Nat} : ∀ {f : Nat}, (∀ p, p < f → l p = l' p) → (∀ p, p ≤ f → S p = S' p) → (∀ p, p < f → up p = up' p) → ov l S up f id = ov l' S' up' f id
  | 0, _, h2, _ => by simp only [ov]; rw [h2 0 (Nat.le_refl _)]
  | f + 1, h1, h2, h3 => by
    simp only [ov]
    rw [h1 f (by omega), h2 (f + 1) (by omega), h3 f (by omega), ov_congr (fun p hp => h1 p (by omega)) (fun p hp => h2 p (by omega)) (fun p hp => h3 p (by omega))]

theorem ov_ext {l l' : Nat → Bool} (tr : Tr) (f : Nat) (ρ : Env) (S : AS) (v : Value) (up : Nat → Bool) (r : DRec) (id : Nat) (hl : ∀ p, p < f → l' p = l p) :
    ov l' (tr.ext f ρ S v up r).S (tr.ext f ρ S v up r).up (f + 1) id = if l' f && up id then S.h id else ov l tr.S tr.up f id := by
  simp only [ov]
  have e1 : (tr.ext f ρ S v up r).up f = up := upd_self _ _ _
  have e2 : (tr.ext f ρ S v up r).S (f + 1) = S := upd_self _ _ _
  have e3 : ov l' (tr.ext f ρ S v up r).S (tr.ext f ρ S v up r).up f id = ov l tr.S tr.up f id := ov_congr hl (fun p hp => upd_ne _ _ (by omega)) (fun p hp => upd_ne _ _ (by omega))
  rw [e1, e2, e3]

theorem Fr.more {S : AS} {H : Nat → Option AObj} {m m' : Nat} {μ μ' : Mu} {w w' : World} (F : Fr S ⟨H, m⟩ μ μ' w w') (h : m ≤ m') : Fr S ⟨H, m'⟩ μ μ' w w' :=
  { os := F.os, tape := F.tape, output := F.output, size := F.size, sub := F.sub, nx := Nat.le_trans F.nx h, fresh := fun i p h1 h2 => ⟨(F.fresh i p h1 h2).1, Nat.lt_of_lt_of_le (F.fresh i p h1 h2).2 h⟩, ro := F.ro, blk := F.blk, own := F.own }

structure Inv (Γ : Fns) (K0 : Env → AS → Prop) (B N : Nat) (items : List DItem) (L : Nat → Bool) (ρ0 : Env) (S0 : AS) (μ0 : Mu) (w0 : World) (a : Act) (w : World) (tr : Tr) (f : Nat) (μ : Mu) : Prop where
  good : Good items L tr f ρ0 S0
  mem : Mem B items L tr f S0 μ0 μ w0 w
  tms : Tms items L tr ρ0 μ N a
  rest : wpDops Γ ((items.drop f).map fun x => (x.ao, x.U)) (tr.hist f) (tr.ρ f) (tr.S f) K0

theorem drop_at {items : List DItem} {f : Nat} {it : DItem} (h : items[f]? = some it) : items.drop f = it :: items.drop (f + 1) := by
  obtain ⟨h1, h2⟩ := List.getElem?_eq_some_iff.1 h
  rw [List.drop_eq_getElem_cons h1, h2]

theorem Inv.pass {Γ : Fns} {K0 : Env → AS → Prop} {B N : Nat} {items : List DItem} {L : Nat → Bool} {ρ0 : Env} {S0 : AS} {μ0 : Mu} {w0 : World} {a : Act} {w : World} {tr : Tr} {f : Nat} {μ : Mu} (h : Inv Γ K0 B N items L ρ0 S0 μ0 w0 a w tr f μ)
    {it : DItem} (hf : items[f]? = some it) {ρ : Env} {S : AS} {v : Value} {up : Nat → Bool} {r : DRec} (he : Ev1 L it (recs (tr.hist f) it.U) (tr.ρ f) ρ (tr.S f) S v up r) (hd : ∀ id o, S.h id = some o → id < S.nx)
    (hrest : wpDops Γ ((items.drop (f + 1)).map fun x => (x.ao, x.U)) (tr.hist f ++ [r]) ρ S K0) : Inv Γ K0 B N items L ρ0 S0 μ0 w0 a w (tr.ext f ρ S v up r) (f + 1) μ := by
  have hlf : lis items L f = false := by
    cases hl : lis items L f with
    | false => rfl
    | true => unfold lis at hl; rw [hf] at hl; exact absurd (h.good.lt f it hf hl) (by omega)
  have g := h.good.ext (fun _ h => h) (fun p x hx hl => Nat.lt_succ_of_lt (h.good.lt p x hx hl)) hf he hd
  have hov : ov (lis items L) (tr.ext f ρ S v up r).S (tr.ext f ρ S v up r).up (f + 1) = ov (lis items L) tr.S tr.up f := by
    funext id
    rw [ov_ext tr f ρ S v up r id (fun _ _ => rfl), hlf]
    rfl
  have hS : (tr.ext f ρ S v up r).S (f + 1) = S := upd_self _ _ _
  have hρ : (tr.ext f ρ S v up r).ρ (f + 1) = ρ := upd_self _ _ _
  refine ⟨g, ⟨?_, ?_, ?_⟩, ⟨h.tms.size, fun p x t hx hl hdx => ?_, h.tms.t0⟩, ?_⟩
  · rw [hov]; exact h.mem.rel.weaken fun _ _ h => h
  · rw [hov, hS]; exact h.mem.fr.more he.nx
  · intro id x hx
    rcases h.mem.map id x hx with h1 | ⟨p, h1, h2, h3, h4⟩
    · exact .inl h1
    · refine .inr ⟨p, by omega, h2, ?_, ?_⟩
      · simp only [Tr.ext]; rw [upd_ne _ _ (by omega)]; exact h3
      · simp only [Tr.ext]; rw [upd_ne _ _ (by omega)]; exact h4
  · have := h.good.lt p x hx hl
    simp only [Tr.ext]
    rw [upd_ne _ _ (by omega)]
    exact h.tms.t1 p x t hx hl hdx
  · rw [Tr.ext_hist1, hS, hρ]; exact hrest

theorem wp_advance {Γ : Fns} {K0 : Env → AS → Prop} {B N : Nat} {items : List DItem} {L : Nat → Bool} {ρ0 : Env} {S0 : AS} {μ0 : Mu} {w0 : World} {a : Act} {w : World} {μ : Mu} : ∀ (n f : Nat) (tr : Tr), items.length = f + n → Inv Γ K0 B N items L ρ0 S0 μ0 w0 a w tr f μ →
    ∃ tr f, Inv Γ K0 B N items L ρ0 S0 μ0 w0 a w tr f μ ∧ (f = items.length ∨ ∃ it, items[f]? = some it ∧ it.ao.op.isCall = true ∧ wantA (tr.ρ f) it.ao.guard = some true) := by
  intro n
  induction n with
  | zero => intro f tr hn h; exact ⟨tr, f, h, .inl (by omega)⟩
  | succ n ih =>
    intro f tr hn h
    have hflt : f < items.length := by omega
    have hf : items[f]? = some items[f] := by simp [hflt]
    obtain ⟨it, hit⟩ : ∃ it, it = items[f] := ⟨_, rfl⟩
    rw [← hit] at hf
    have hrest := h.rest
    rw [drop_at hf] at hrest
    simp only [List.map_cons, wpDops] at hrest
    split at hrest
    · exact hrest.elim
    · rename_i hw
      exact ih (f + 1) _ (by omega) (h.pass hf (v := undef) (up := fun _ => false) (r := DRec.none) (.skip hw rfl rfl (fun _ => rfl) rfl rfl) (h.good.dom f (Nat.le_refl _)) hrest)
    · rename_i hw
      split at hrest
      · rename_i hcl
        exact ⟨tr, f, h, .inr ⟨it, hf, hcl, hw⟩⟩
      · rename_i hcl
        split at hrest
        · rename_i v S' hs
          split at hrest
          case isFalse => exact hrest.elim
          rename_i hp
          obtain ⟨c, k1, k2, k3, k4⟩ := step_local hs
          refine ih (f + 1) _ (by omega) (h.pass hf (v := v) (up := c.hits (tr.S f)) (.op c hw (by simpa using hcl) hs k1 k2 k3 k4 (fun _ => rfl) rfl hp rfl) ?_ hrest)
          intro id o ho
          have hdm := h.good.dom f (Nat.le_refl _)
          rw [k1] at ho ⊢
          rw [Delta.app_nx]
          rw [Delta.app_h] at ho
          split at ho
          · rename_i hh
            simp only [Bool.and_eq_true, beq_iff_eq] at hh
            rw [hh.1]; simp; omega
          · split at ho
            · rename_i b o' hu
              split at ho
              · rename_i hb
                subst hb
                obtain ⟨y, h2, _⟩ := (k2.upd id o' hu).2.1
                exact Nat.lt_add_right _ (hdm id y h2)
              · exact Nat.lt_add_right _ (hdm id o ho)
            · exact Nat.lt_add_right _ (hdm id o ho)
        · exact hrest.elim

end Go.Ax

/- Regions whose order is open: a call in its turn; all orders. -/
namespace Go.Ax
variable {P : Program}

theorem roAt_some {S : AS} {id : Nat} {o : AObj} (h : S.h id = some o) : S.roAt id = o.ro := by simp [AS.roAt, h]

theorem exec_call {B N : Nat} {ops : Array Oper} {items : List DItem} (hch : Chain P N ops items) {Γ : Fns} (hΓ : FnsOk P B Γ) {K0 : Env → AS → Prop} {L : Nat → Bool} {tr : Tr} {f : Nat} {ρ0 : Env} {S0 : AS} {μ0 μ : Mu} {w0 w : World} {a : Act}
    (h : Inv Γ K0 B N items L ρ0 S0 μ0 w0 a w tr f μ) {it : DItem} (hf : items[f]? = some it) (hcl : it.ao.op.isCall = true) (hw : wantA (tr.ρ f) it.ao.guard = some true) (hn : L it.i = false) (ho : Off items L f f) {K : Act → World → Prop} {Q : Exit → Act → World → Prop}
    (hK : ∀ a' w' tr' μ', Inv Γ K0 B N items (lst L it.i) ρ0 S0 μ0 w0 a' w' tr' (f + 1) μ' → a'.defers = a.defers → K a' w') : Go.wpOp P ops Q it.i K a w := by
  obtain ⟨o, ho1, ho2, _⟩ := (hch.at hf).op
  obtain ⟨hc, hgd, hdst, hdlt⟩ := cOper_spec ho2
  have g := h.good
  have hE := h.tms.at g hf (Nat.le_refl _) hn ho
  obtain ⟨hcong, hwant⟩ := ev_looks (ρ := keepE (tr.ρ f) it.ao.looks) (ρ' := tr.ρ f) (a := it.ao) (fun t ht => keepE_look ht)
  obtain ⟨hlj, hlp⟩ := lis_lst hch (L := L) hf
  unfold Go.wpOp
  rw [ho1]
  simp only
  rw [want_sound hE hgd (hwant.trans hw)]
  simp only [if_true]
  left
  have hrest := h.rest
  rw [drop_at hf] at hrest
  simp only [List.map_cons, wpDops, hw, hcl, if_true] at hrest
  obtain ⟨hid, hhid⟩ : ∃ hid, hid = hidden (tr.S f) (recs (tr.hist f) it.U) := ⟨_, rfl⟩
  rw [← hhid] at hrest
  have hTH : ∀ id x, ((tr.S f).hide hid).h id = some x → ov (lis items L) tr.S tr.up f id = some x := by
    intro id x hx
    simp only [AS.hide] at hx
    split at hx
    · cases hx
    · rename_i hnid
      have hnid' : hid.contains id = false := by simpa using hnid
      rw [g.vis (j := f) (Nat.le_refl _) ?_ (fun p h1 h2 => by omega)]
      · exact hx
      · intro p y hp hy hl
        obtain ⟨k1, k2⟩ := ho.before p y hp hy hl
        have hevp := g.ev p y hp hy
        cases hup : tr.up p id with
        | false => rfl
        | true =>
          exfalso
          have hU := (k2 it hf).2 (by simp [AOp.rel, hcl]) (hevp.rel hup)
          rw [hhid] at hnid'
          obtain ⟨q1, q2⟩ := hidden_at (tr.mem_recs hp hU) hnid'
          rcases hevp.touch k1 hup with ⟨h1, h2, h3, _⟩ | ⟨h1, h2, h3, h4⟩
          · refine q1 ?_ h1
            cases hro : (tr.S f).roAt id with
            | false => rfl
            | true => rw [g.ro (Nat.le_of_lt hp) (Nat.le_refl _) hro] at h3; cases h3
          · exact q2 ⟨by omega, by omega⟩
  have rT : Rel B μ ((tr.S f).hide hid) w := h.mem.rel.weaken hTH
  have bT : Bnd μ ((tr.S f).hide hid) := fun i hi => h.mem.bnd g hi
  refine wpOp_sound hΓ rT bT hE hc ((wpOp_env hcong _ _).2 hrest) ?_
  intro v v' μ' S1 w' hrest' hv hr' hfr
  have hb' := hfr.bnd bT
  obtain ⟨u, hu⟩ : ∃ u : Nat → Bool, u = fun id => !hid.contains id && !(tr.S f).roAt id := ⟨_, rfl⟩
  have hjoin : ∀ id, ((tr.S f).join hid S1).h id = if u id then S1.h id else (tr.S f).h id := by
    intro id
    simp only [AS.join, hu]
    cases hid.contains id <;> cases (tr.S f).roAt id <;> simp
  have hjnx : ((tr.S f).join hid S1).nx = S1.nx := rfl
  have hdom : ∀ id x, ((tr.S f).join hid S1).h id = some x → id < ((tr.S f).join hid S1).nx := by
    intro id x hx
    rw [hjoin] at hx
    rw [hjnx]
    split at hx
    · obtain ⟨b, d, z, k1, _⟩ := hr'.obj id x hx
      rcases Nat.lt_or_ge id S1.nx with h5 | h5
      · exact h5
      · rw [hb' id h5] at k1; cases k1
    · exact Nat.lt_of_lt_of_le (g.dom f (Nat.le_refl _) id x hx) hfr.nx
  have hev : Ev1 (lst L it.i) it (recs (tr.hist f) it.U) (tr.ρ f) (putE (tr.ρ f) it.ao.dst v) (tr.S f) ((tr.S f).join hid S1) v u DRec.none := by
    refine .call (by simp [lst]) hcl hw (fun id => by rw [hu, hhid]) (fun id hid0 => ?_) hfr.nx rfl (fun id hro => ?_) rfl
    · rw [hjoin, hid0]; rfl
    · unfold AS.roAt at hro
      rw [hjoin] at hro
      split at hro
      · rename_i x hx
        split at hx
        · have := hfr.ro id x hx hro
          simp only [AS.hide] at this
          split at this
          · cases this
          · rw [roAt_some this]; exact hro
        · rw [roAt_some hx]; exact hro
      · cases hro
  have hlt : ∀ p x, items[p]? = some x → lst L it.i x.i = true → p < f + 1 := by
    intro p x hx hl
    simp only [lst, Bool.or_eq_true, beq_iff_eq] at hl
    rcases hl with hl | hl
    · exact Nat.lt_succ_of_lt (g.lt p x hx hl)
    · rw [hch.inj hx hf hl]; omega
  have g' := g.ext (L' := lst L it.i) (fun i hi => by simp [lst, hi]) hlt hf hev hdom
  have hS : (tr.ext f (putE (tr.ρ f) it.ao.dst v) ((tr.S f).join hid S1) v u DRec.none).S (f + 1) = (tr.S f).join hid S1 := upd_self _ _ _
  have hρ : (tr.ext f (putE (tr.ρ f) it.ao.dst v) ((tr.S f).join hid S1) v u DRec.none).ρ (f + 1) = putE (tr.ρ f) it.ao.dst v := upd_self _ _ _
  have hvf : (tr.ext f (putE (tr.ρ f) it.ao.dst v) ((tr.S f).join hid S1) v u DRec.none).v f = v := upd_self _ _ _
  have hH : ∀ id, ov (lis items (lst L it.i)) (tr.ext f (putE (tr.ρ f) it.ao.dst v) ((tr.S f).join hid S1) v u DRec.none).S (tr.ext f (putE (tr.ρ f) it.ao.dst v) ((tr.S f).join hid S1) v u DRec.none).up (f + 1) id = if u id then S1.h id else ov (lis items L) tr.S tr.up f id := by
    intro id
    rw [ov_ext tr f _ _ v u DRec.none id (fun p hp => hlp p (by omega)), hlj, Bool.true_and, hjoin]
    by_cases h : u id = true
    · rw [if_pos h, if_pos h, if_pos h]
    · rw [if_neg h, if_neg h]
  have hk : ∀ id x, u id = false → ((tr.S f).hide hid).h id = some x → x.ro = false → S1.h id = some x := by
    intro id x h1 h2 h3
    exfalso
    simp only [AS.hide] at h2
    split at h2
    · cases h2
    · rename_i hnid
      have h1' : (!hid.contains id && !(tr.S f).roAt id) = false := by rw [hu] at h1; exact h1
      rw [roAt_some h2, h3] at h1'
      simp at h1' hnid
      exact hnid h1'
  refine hK _ _ (tr.ext f (putE (tr.ρ f) it.ao.dst v) ((tr.S f).join hid S1) v u DRec.none) μ' ⟨g', ⟨?_, ?_, ?_⟩, ?_, ?_⟩ (by cases o.dst <;> rfl)
  · rw [hS]
    exact over_rel u h.mem.rel hr' hfr hTH hH hk
  · rw [hS]
    refine over_fr u h.mem.rel h.mem.fr hfr hTH hH hfr.nx fun id h1 h2 => ?_
    have := g.nx (p := 0) (q := f) (by omega) (by omega)
    rw [g.z2] at this
    have h1' : (tr.S f).nx ≤ id := h1
    exact ⟨by omega, h2⟩
  · intro id x hx
    cases hm : μ id with
    | some y =>
      rcases h.mem.map id y hm with h1 | ⟨p, h1, h2, h3, h4⟩
      · exact .inl h1
      · refine .inr ⟨p, by omega, lis_mono h2, ?_, ?_⟩
        · simp only [Tr.ext]; rw [upd_ne _ _ (by omega)]; exact h3
        · simp only [Tr.ext]; rw [upd_ne _ _ (by omega)]; exact h4
    | none =>
      obtain ⟨k1, k2⟩ := hfr.fresh id x hm hx
      refine .inr ⟨f, by omega, hlj, ?_, ?_⟩
      · simp only [Tr.ext]; rw [upd_ne _ _ (by omega)]; exact k1
      · rw [hS]; exact k2
  · have := h.tms.put (tr' := tr.ext f (putE (tr.ρ f) it.ao.dst v) ((tr.S f).join hid S1) v u DRec.none) hch hfr.sub hf (v' := v') (by rw [hvf]; exact hv) (by rw [hdst]; exact hdlt)
      (fun p x hpf _ _ => by simp only [Tr.ext]; rw [upd_ne _ _ hpf])
    rw [hdst] at this ⊢
    exact this
  · rw [Tr.ext_hist1, hS, hρ]; exact hrest'

theorem filter_le {p q : Nat → Bool} : ∀ {l : List Nat}, (∀ x ∈ l, p x = true → q x = true) → (l.filter p).length ≤ (l.filter q).length
  | [], _ => by simp
  | x :: l, h => by
    have ih := filter_le (l := l) (fun y hy => h y (by simp [hy]))
    simp only [List.filter_cons]
    by_cases hp : p x = true
    · rw [if_pos hp, if_pos (h x (by simp) hp)]; simp; exact ih
    · rw [if_neg hp]; split
      · simp; omega
      · exact ih

theorem filter_lt {p q : Nat → Bool} : ∀ {l : List Nat}, (∀ x ∈ l, p x = true → q x = true) → (∃ x ∈ l, q x = true ∧ p x = false) → (l.filter p).length < (l.filter q).length
  | [], _, h => by obtain ⟨x, h, _⟩ := h; simp at h
  | x :: l, h, ⟨y, hy, h1, h2⟩ => by
    simp only [List.filter_cons]
    have h' : ∀ z ∈ l, p z = true → q z = true := fun z hz => h z (by simp [hz])
    rcases List.mem_cons.1 hy with rfl | hy
    · rw [h2, h1]; simp; exact Nat.lt_succ_of_le (filter_le h')
    · have ih := filter_lt (l := l) h' ⟨y, hy, h1, h2⟩
      by_cases hp : p x = true
      · rw [if_pos hp, if_pos (h x (by simp) hp)]; simp; exact ih
      · rw [if_neg hp]; split
        · simp; omega
        · exact ih

theorem edges_ready {md : Region.Mode} {o : Oper} {listed : Array Bool} (h : md = .any) : (∀ e ∈ o.after, Region.binds md e = true → listed.getD e.on false = true) ↔ ∀ d ∈ edgesOf o, listed.getD d false = true := by
  subst h
  unfold edgesOf
  constructor
  · intro h d hd
    simp only [List.mem_map, List.mem_filter, Array.mem_toList_iff] at hd
    obtain ⟨e, ⟨h1, h2⟩, rfl⟩ := hd
    exact h e h1 h2
  · intro h e h1 h2
    exact h e.on (by simp only [List.mem_map, List.mem_filter, Array.mem_toList_iff]; exact ⟨e, ⟨h1, h2⟩, rfl⟩)

theorem draw_any {B N : Nat} {ops : Array Oper} {items : List DItem} (hch : Chain P N ops items) (hall : ∀ i o, ops[i]? = some o → ∃ (p : Nat) (it : DItem), items[p]? = some it ∧ it.i = i) {Γ : Fns} (hΓ : FnsOk P B Γ) {K0 : Env → AS → Prop} {ρ0 : Env} {S0 : AS} {μ0 : Mu} {w0 : World} {d0 : List Deferred} {Q : Exit → Act → World → Prop}
    (hQ : ∀ ρ' S' μ' w' a', K0 ρ' S' → Rel B μ' S' w' → ERel μ' N ρ' a' → Fr S0 S' μ0 μ' w0 w' → a'.defers = d0 → Q .normal a' w') :
    ∀ (fuel : Nat) (listed : Array Bool) (a : Act) (w : World) (tr : Tr) (f : Nat) (μ : Mu), listed.size = ops.size → ((List.range ops.size).filter fun i => !listed.getD i true).length ≤ fuel →
      (∀ i o, ops[i]? = some o → listed.getD i false = true → ∀ d ∈ edgesOf o, listed.getD d false = true) → a.defers = d0 →
      Inv Γ K0 B N items (fun i => listed.getD i false) ρ0 S0 μ0 w0 a w tr f μ → wpAny P .any ops Q fuel listed a w := by
  have hidx : ∀ (p : Nat) (it : DItem), items[p]? = some it → ∃ o, ops[it.i]? = some o ∧ ∀ d ∈ edgesOf o, ∃ (q : Nat) (x : DItem), q < p ∧ items[q]? = some x ∧ x.i = d := by
    intro p it hp
    obtain ⟨o, h1, h2, h3, h4⟩ := (hch.at hp).op
    refine ⟨o, h1, fun d hd => ?_⟩
    obtain ⟨x, hx, hxd⟩ := h3 d hd
    obtain ⟨q, hq⟩ := List.getElem?_of_mem hx
    have hqp : q < p := by
      rcases Nat.lt_or_ge q p with h5 | h5
      · exact h5
      · rw [List.getElem?_eq_none (by simp; omega)] at hq; cases hq
    rw [List.getElem?_take_of_lt hqp] at hq
    exact ⟨q, x, hqp, hq, hxd⟩
  have hdone : ∀ (listed : Array Bool) (a : Act) (w : World) (tr : Tr) (f : Nat) (μ : Mu), listed.size = ops.size → a.defers = d0 → Inv Γ K0 B N items (fun i => listed.getD i false) ρ0 S0 μ0 w0 a w tr f μ → Region.ready .any ops listed = [] → Q .normal a w := by
    intro listed a w tr f μ hsz hd inv hr
    have hl : ∀ (p : Nat) (it : DItem), items[p]? = some it → listed.getD it.i false = true := by
      intro p
      induction p using Nat.strongRecOn with
      | _ p ih =>
        intro it hp
        obtain ⟨o, h1, h2⟩ := hidx p it hp
        cases hh : listed.getD it.i false with
        | true => rfl
        | false =>
          exfalso
          have : it.i ∈ Region.ready .any ops listed := by
            rw [mem_ready]
            have hlt : it.i < listed.size := by rw [hsz]; exact (Array.getElem?_eq_some_iff.1 h1).1
            refine ⟨?_, o, h1, (edges_ready rfl).2 fun d hd => ?_⟩
            · simp [hlt] at hh ⊢; exact hh
            · obtain ⟨q, x, k1, k2, k3⟩ := h2 d hd
              rw [← k3]; exact ih q k1 x k2
          rw [hr] at this; cases this
    have hf : f = items.length := by
      rcases Nat.lt_or_ge f items.length with h | h
      · have h1 : items[f]? = some items[f] := by simp [h]
        exact absurd (inv.good.lt f _ h1 (hl f _ h1)) (by omega)
      · have := inv.good.len; omega
    have hrest := inv.rest
    rw [hf, List.drop_length] at hrest
    simp only [List.map_nil, wpDops] at hrest
    rw [← hf] at hrest
    have hov : (⟨ov (lis items fun i => listed.getD i false) tr.S tr.up f, (tr.S f).nx⟩ : AS) = tr.S f := by
      have : ov (lis items fun i => listed.getD i false) tr.S tr.up f = (tr.S f).h := by
        funext id
        exact inv.good.vis (j := f) (Nat.le_refl _) (fun p x hp hx hn => by rw [hl p x hx] at hn; cases hn) (fun p h1 h2 => by omega)
      rw [this]
    have hrel := inv.mem.rel
    have hfr := inv.mem.fr
    rw [hov] at hrel hfr
    refine hQ _ _ μ w a hrest hrel ⟨inv.tms.size, fun t u hu => ?_⟩ hfr hd
    rcases inv.good.env (Nat.le_refl _) hu with ⟨p, it, h1, h2, h3, rfl⟩ | ⟨h1, h2⟩
    · exact inv.tms.t1 p it t h2 (hl p it h2) h3
    · refine inv.tms.t0 t u (fun p x hx _ => h1 p x ?_ hx) h2
      rw [hf]
      rcases Nat.lt_or_ge p items.length with h | h
      · exact h
      · rw [List.getElem?_eq_none h] at hx; cases hx
  intro fuel
  induction fuel with
  | zero =>
    intro listed a w tr f μ hsz hcnt hcl hd inv
    have hr : Region.ready .any ops listed = [] := by
      rw [List.eq_nil_iff_forall_not_mem]
      intro i hi
      rw [mem_ready] at hi
      obtain ⟨h1, o, ho, _⟩ := hi
      have : i ∈ (List.range ops.size).filter fun i => !listed.getD i true := by
        rw [List.mem_filter, List.mem_range]
        exact ⟨(Array.getElem?_eq_some_iff.1 ho).1, by rw [h1]; rfl⟩
      rw [List.eq_nil_of_length_eq_zero (Nat.le_zero.1 hcnt)] at this
      cases this
    exact ⟨hr, hdone listed a w tr f μ hsz hd inv hr⟩
  | succ fuel ih =>
    intro listed a w tr f μ hsz hcnt hcl hd inv
    refine ⟨fun hr => hdone listed a w tr f μ hsz hd inv hr, fun i hi => ?_⟩
    rw [mem_ready] at hi
    obtain ⟨h1, o, ho, hed⟩ := hi
    rw [edges_ready rfl] at hed
    obtain ⟨j, it, hj, hji⟩ := hall i o ho
    subst hji
    have hilt : it.i < listed.size := by rw [hsz]; exact (Array.getElem?_eq_some_iff.1 ho).1
    have hn : listed.getD it.i false = false := by simp [hilt] at h1 ⊢; exact h1
    have hoff : ∀ f, Off items (fun i => listed.getD i false) f j := fun f => hch.off (f := f) hcl hj hn (fun o' ho' => by rw [ho] at ho'; cases ho'; exact hed)
    -- the next array
    have hsz' : (listed.setIfInBounds it.i true).size = ops.size := by simp [hsz]
    have hL : (fun k => (listed.setIfInBounds it.i true).getD k false) = lst (fun k => listed.getD k false) it.i := by
      funext k
      simp only [lst]
      by_cases hk : it.i = k
      · subst hk; simp [hilt]
      · rw [getD_set_ne false hk]
        have : (k == it.i) = false := by simpa using Ne.symm hk
        simp [this]
    have hcnt' : ((List.range ops.size).filter fun k => !(listed.setIfInBounds it.i true).getD k true).length ≤ fuel := by
      have : ((List.range ops.size).filter fun k => !(listed.setIfInBounds it.i true).getD k true).length < ((List.range ops.size).filter fun k => !listed.getD k true).length := by
        refine filter_lt (fun x _ hx => ?_) ⟨it.i, by rw [List.mem_range, ← hsz]; exact hilt, by rw [h1]; rfl, by simp [hilt]⟩
        by_cases hk : it.i = x
        · subst hk; simp [hilt] at hx
        · rw [getD_set_ne true hk] at hx; exact hx
      omega
    have hcl' : ∀ k o', ops[k]? = some o' → (listed.setIfInBounds it.i true).getD k false = true → ∀ d ∈ edgesOf o', (listed.setIfInBounds it.i true).getD d false = true := by
      intro k o' hk hkl d hd'
      by_cases hki : it.i = k
      · subst hki; rw [ho] at hk; cases hk; exact getD_set_true (hed d hd')
      · rw [getD_set_ne false hki] at hkl; exact getD_set_true (hcl k o' hk hkl d hd')
    obtain ⟨tr, f, inv, hhead⟩ := wp_advance (items.length - f) f tr (by have := inv.good.len; omega) inv
    by_cases hjf : j < f
    · refine exec_op hch inv.good inv.mem inv.tms hj hjf hn (hoff f) (fun a' w' μ' g' m' t' hd' => ?_)
      refine ih _ a' w' tr f μ' hsz' hcnt' hcl' (hd'.trans hd) ?_
      rw [hL]
      exact ⟨g', m', t', inv.rest⟩
    · rcases hhead with hhead | ⟨x, hx, hxc, hxw⟩
      · exfalso
        rw [List.getElem?_eq_none (by omega)] at hj; cases hj
      · have hjf' : j = f := by
          rcases Nat.lt_or_ge f j with h5 | h5
          · have hnl : listed.getD x.i false = false := by
              cases hh : listed.getD x.i false with
              | false => rfl
              | true => exact absurd (inv.good.lt f x hx hh) (by omega)
            have := ((hoff f).before f x h5 hx hnl).1
            rw [hxc] at this; cases this
          · omega
        subst hjf'
        rw [hj] at hx; cases hx
        refine exec_call hch hΓ inv hj hxc hxw hn (hoff j) (fun a' w' tr' μ' inv' hd' => ?_)
        refine ih _ a' w' tr' (j + 1) μ' hsz' hcnt' hcl' (hd'.trans hd) ?_
        rw [hL]
        exact inv'

end Go.Ax

/- Code and functions, in both worlds. -/
namespace Go.Ax
variable {P : Program}

inductive Hint where
  | leaf
  | reg (live : List Nat) (perm : List (Nat × List Nat × List Nat))
  | two (a b : Hint)
  | one (a : Hint)

def cCode (P : Program) (N : Nat) : Hint → Code → Option ACode
  | _, .skip => some .skip
  | _, .label _ => some .skip
  | _, .exit id => some (.exit id)
  | _, .ret => some .ret
  | .reg live perm, .region _ ops draw =>
    if draw then match cDraw P N ops perm [] with
      | some items => if (List.range ops.size).all (fun i => items.any fun x => x.i == i) then some (.dreg live (items.map fun x => (x.ao, x.U))) else none
      | none => none
    else (cOps P N ops ops.toList).map (.reg live ·)
  | .two h k, .seq a b => match cCode P N h a, cCode P N k b with
    | some x, some y => some (.seq x y)
    | _, _ => none
  | .two h k, .cond c a b => match cCode P N h a, cCode P N k b with
    | some x, some y => if groundO c then some (.cond c x y) else none
    | _, _ => none
  | .one h, .block id b => (cCode P N h b).map (.block id ·)
  | .one h, .loop b => (cCode P N h b).map .loop
  | .one h, .scope b => cCode P N h b
  | _, _ => none

def AExit.to : AExit → Exit
  | .normal => .normal
  | .exit id => .exit id
  | .ret => .ret

theorem ERel.keep {μ : Mu} {N : Nat} {ρ : Env} {a : Act} (h : ERel μ N ρ a) (l : List Nat) : ERel μ N (keepE ρ l) a :=
  ⟨h.size, fun t v hv => h.get t v (keepE_mem hv).2⟩

/-- Where code has come to. -/
def After (B : Nat) (N : Nat) (μ : Mu) (S : AS) (a : Act) (w : World) (K : AExit → Env → AS → Prop) (Q : Exit → Act → World → Prop) : Prop :=
  ∀ x ρ' S' μ' w' a', K x ρ' S' → Rel B μ' S' w' → ERel μ' N ρ' a' → Fr S S' μ μ' w w' → a'.defers = a.defers → Q x.to a' w'

theorem After.go {B N : Nat} {μ μ' : Mu} {S S' : AS} {a a' : Act} {w w' : World} {K : AExit → Env → AS → Prop} {Q : Exit → Act → World → Prop} (h : After B N μ S a w K Q) (f : Fr S S' μ μ' w w') (hd : a'.defers = a.defers) : After B N μ' S' a' w' K Q :=
  fun x ρ' S2 μ2 w2 a2 k r e f2 d => h x ρ' S2 μ2 w2 a2 k r e (f.trans f2) (d.trans hd)

theorem cDraw_all {N : Nat} {ops : Array Oper} {perm : List (Nat × List Nat × List Nat)} {items : List DItem} (h : cDraw P N ops perm [] = some items) (hall : (List.range ops.size).all (fun i => items.any fun x => x.i == i) = true) :
    Chain P N ops items ∧ ∀ i o, ops[i]? = some o → ∃ (p : Nat) (it : DItem), items[p]? = some it ∧ it.i = i := by
  refine ⟨cDraw_chain .nil h, fun i o ho => ?_⟩
  have := List.all_eq_true.1 hall i (List.mem_range.2 (Array.getElem?_eq_some_iff.1 ho).1)
  simp only [List.any_eq_true, beq_iff_eq] at this
  obtain ⟨x, hx, hi⟩ := this
  obtain ⟨p, hp⟩ := List.getElem?_of_mem hx
  exact ⟨p, x, hp, hi⟩

theorem inv_start {Γ : Fns} {K0 : Env → AS → Prop} {B N : Nat} {items : List DItem} {ρ : Env} {S : AS} {μ : Mu} {w0 w : World} {a : Act} {sz : Nat} (r : Rel B μ S w) (f : Fr S S μ μ w0 w) (hb : Bnd μ S) (he : ERel μ N ρ a) (h : wpDops Γ (items.map fun x => (x.ao, x.U)) [] ρ S K0) :
    Inv Γ K0 B N items (fun i => (Array.replicate sz false).getD i false) ρ S μ w0 a w ⟨fun _ => ρ, fun _ => S, fun _ => undef, fun _ _ => false, fun _ => DRec.none⟩ 0 μ := by
  have hl : ∀ i, (Array.replicate sz false).getD i false = false := by
    intro i
    rw [Array.getD_eq_getD_getElem?, Array.getElem?_replicate]
    split <;> rfl
  have hbd : ∀ i p, μ i = some p → i < S.nx := by
    intro i p hm
    rcases Nat.lt_or_ge i S.nx with h5 | h5
    · exact h5
    · rw [hb i h5] at hm; cases hm
  refine ⟨⟨rfl, rfl, Nat.zero_le _, fun p it hp => by omega, fun p it _ h => (by rw [hl] at h; cases h), fun p hp id o ho => ?_⟩, ⟨r, f, fun id x hx => .inl (hbd id x hx)⟩, ⟨he.size, fun p it t _ h => (by rw [hl] at h; cases h), fun t u _ hu => he.get t u hu⟩, ?_⟩
  · obtain ⟨b, d, z, h1, _⟩ := r.obj id o ho
    exact hbd id _ h1
  · simpa [Tr.hist] using h

theorem wpC_sound {B : Nat} {Γ : Fns} (hP : P.follows .mixedOrders = true) (hΓ : FnsOk P B Γ) {N n : Nat} : ∀ (c : Code) (h : Hint) (ac : ACode), cCode P N h c = some ac → ∀ {μ : Mu} {S : AS} {w : World} {ρ : Env} {a : Act}, Rel B μ S w → Bnd μ S → ERel μ N ρ a →
    ∀ {K : AExit → Env → AS → Prop} {Q : Exit → Act → World → Prop}, wpC Γ n ac ρ S K → After B N μ S a w K Q → c.wp P Q a w := by
  intro c
  induction c with
  | skip =>
    intro h ac hc μ S w ρ a r hb he K Q hw hQ
    simp only [cCode, Option.some.injEq] at hc; subst hc
    exact wp_skip (hQ .normal ρ S μ w a hw r he (Fr.refl _ _ _) rfl)
  | label l =>
    intro h ac hc μ S w ρ a r hb he K Q hw hQ
    simp only [cCode, Option.some.injEq] at hc; subst hc
    exact wp_label (hQ .normal ρ S μ w a hw r he (Fr.refl _ _ _) rfl)
  | exit id =>
    intro h ac hc μ S w ρ a r hb he K Q hw hQ
    simp only [cCode, Option.some.injEq] at hc; subst hc
    exact wp_exit (hQ (.exit id) ρ S μ w a hw r he (Fr.refl _ _ _) rfl)
  | ret =>
    intro h ac hc μ S w ρ a r hb he K Q hw hQ
    simp only [cCode, Option.some.injEq] at hc; subst hc
    exact wp_ret (hQ .ret ρ S μ w a hw r he (Fr.refl _ _ _) rfl)
  | goto l => intro h ac hc; simp [cCode] at hc
  | refuse y => intro h ac hc; simp [cCode] at hc
  | rangeFunc f ps x y _ _ => intro h ac hc; simp [cCode] at hc
  | region id ops draw =>
    intro h ac hc μ S w ρ a r hb he K Q hw hQ
    cases h with
    | reg live perm =>
      simp only [cCode] at hc
      split at hc
      · rename_i hdraw
        split at hc
        · rename_i items hit
          split at hc
          · rename_i hall
            cases hc
            subst hdraw
            obtain ⟨hch, hal⟩ := cDraw_all hit hall
            simp only [wpC] at hw
            refine wp_region_any hP ?_
            refine draw_any hch hal hΓ (d0 := a.defers) (fun ρ' S' μ' w' a' k1 k2 k3 k4 k5 => ?_) ops.size (Array.replicate ops.size false) a _ _ 0 μ (by simp) ?_ ?_ rfl
              (inv_start (r.world rfl) (Fr.world (w := w) rfl rfl rfl rfl) hb he hw)
            · exact hQ .normal (keepE ρ' live) S' μ' w' a' k1 k2 (k3.keep live) k4 k5
            · refine Nat.le_trans (List.length_filter_le _ _) (by simp)
            · intro i o _ hl
              rw [Array.getD_eq_getD_getElem?, Array.getElem?_replicate] at hl
              split at hl <;> cases hl
          · cases hc
        · cases hc
      · rename_i hdraw
        obtain ⟨as, has, e⟩ := map_some hc
        cases e
        have hdraw : draw = false := by simpa using hdraw
        subst hdraw
        simp only [wpC] at hw
        refine wp_region_list (wpOps_sound hΓ has r hb he hw fun ρ' S' μ' w' a' k1 k2 k3 k4 k5 => ?_)
        exact hQ .normal (keepE ρ' live) S' μ' w' a' k1 k2 (k3.keep live) k4 k5
    | _ => simp [cCode] at hc
  | seq x y ihx ihy =>
    intro h ac hc μ S w ρ a r hb he K Q hw hQ
    cases h with
    | two h k =>
      simp only [cCode] at hc
      split at hc
      · rename_i ax ay hx hy
        cases hc
        simp only [wpC] at hw
        refine wp_seq (ihx h ax hx r hb he hw ?_)
        intro e ρ' S' μ' w' a' hk r' e' f' d'
        cases e with
        | normal => exact ihy k ay hy r' (f'.bnd hb) e' hk (hQ.go f' d')
        | exit id => exact hQ (.exit id) ρ' S' μ' w' a' hk r' e' f' d'
        | ret => exact hQ .ret ρ' S' μ' w' a' hk r' e' f' d'
      · cases hc
    | _ => simp [cCode] at hc
  | cond c x y ihx ihy =>
    intro h ac hc μ S w ρ a r hb he K Q hw hQ
    cases h with
    | two h k =>
      simp only [cCode] at hc
      split at hc
      · rename_i ax ay hx hy
        split at hc
        · rename_i hg
          cases hc
          simp only [wpC] at hw
          split at hw
          · rename_i t ht
            have hv := ev_sound he hg ht
            have hev : a.eval c = .bool t := by generalize a.eval c = u at hv; cases hv; rfl
            refine wp_cond hev ?_
            cases t with
            | true => exact ihx h ax hx r hb he hw hQ
            | false => exact ihy k ay hy r hb he hw hQ
          · exact hw.elim
        · cases hc
      · cases hc
    | _ => simp [cCode] at hc
  | block id x ih =>
    intro h ac hc μ S w ρ a r hb he K Q hw hQ
    cases h with
    | one h =>
      simp only [cCode] at hc
      obtain ⟨ax, hx, e⟩ := map_some hc
      cases e
      simp only [wpC] at hw
      refine wp_block (ih h ax hx r hb he hw ?_)
      intro e ρ' S' μ' w' a' hk r' e' f' d'
      cases e with
      | normal => exact hQ .normal ρ' S' μ' w' a' hk r' e' f' d'
      | exit i =>
        simp only [AExit.to, Exit.inBlock]
        simp only at hk
        split at hk
        · rename_i hi; rw [if_pos hi]; exact hQ .normal ρ' S' μ' w' a' hk r' e' f' d'
        · rename_i hi; rw [if_neg hi]; exact hQ (.exit i) ρ' S' μ' w' a' hk r' e' f' d'
      | ret => exact hQ .ret ρ' S' μ' w' a' hk r' e' f' d'
    | _ => simp [cCode] at hc
  | loop x ih =>
    intro h ac hc μ S w ρ a r hb he K Q hw hQ
    cases h with
    | one h =>
      simp only [cCode] at hc
      obtain ⟨ax, hx, e⟩ := map_some hc
      cases e
      simp only [wpC] at hw
      have key : ∀ k {μ : Mu} {S : AS} {w : World} {ρ : Env} {a : Act}, Rel B μ S w → Bnd μ S → ERel μ N ρ a → wpLoop (wpC Γ n ax) k ρ S K → After B N μ S a w K Q → Code.rounds P x Q k a w := by
        intro k
        induction k with
        | zero => intro μ S w ρ a _ _ _ hw; exact hw.elim
        | succ k ihk =>
          intro μ S w ρ a r hb he hw hQ
          simp only [wpLoop] at hw
          rw [rounds_succ]
          refine ih h ax hx r hb he hw ?_
          intro e ρ' S' μ' w' a' hk r' e' f' d'
          cases e with
          | normal => exact ihk r' (f'.bnd hb) e' hk (hQ.go f' d')
          | exit id => exact hQ (.exit id) ρ' S' μ' w' a' hk r' e' f' d'
          | ret => exact hQ .ret ρ' S' μ' w' a' hk r' e' f' d'
      exact wp_loop_rounds n (key n r hb he hw hQ)
    | _ => simp [cCode] at hc
  | scope x ih =>
    intro h ac hc μ S w ρ a r hb he K Q hw hQ
    cases h with
    | one h =>
      simp only [cCode] at hc
      refine wp_scope_straight (ih h ac hc r hb he hw ?_)
      intro e ρ' S' μ' w' a' hk r' e' f' d'
      cases e with
      | normal => exact hQ .normal ρ' S' μ' w' a' hk r' e' f' d'
      | exit id => exact hQ (.exit id) ρ' S' μ' w' a' hk r' e' f' d'
      | ret => exact hQ .ret ρ' S' μ' w' a' hk r' e' f' d'
    | _ => simp [cCode] at hc

end Go.Ax

/- Functions, in both worlds. -/
namespace Go.Ax
variable {P : Program}

def cRes (P : Program) : ResultVar → Option ARes
  | .tmp t => some (.tmp t)
  | .cell a t => (aggN P t).map (.cell a ·)

def cRess (P : Program) : List ResultVar → Option (List ARes)
  | [] => some []
  | r :: rs => match cRes P r, cRess P rs with
    | some x, some xs => some (x :: xs)
    | _, _ => none

def resOne (tmps : Array Value) : ResultVar → Sem Value
  | .tmp t => pure (tmps.getD t undef)
  | .cell a t => do loadVar t (← asAddr (tmps.getD a undef))

theorem results_eq (fn : Func) (tmps : Array Value) : results fn tmps = (do let vs ← fn.results.mapM (resOne tmps); pure (if h : vs.size = 1 then vs[0] else .tuple vs)) := rfl

theorem resOne_sound {B : Nat} {μ : Mu} {S : AS} {w : World} {N : Nat} {ρ : Env} {a : Act} (r : Rel B μ S w) (he : ERel μ N ρ a) {x : ResultVar} {y : ARes} (hc : cRes P x = some y) {v : Value} (hv : resV ρ S y = some v) :
    ∃ v', (resOne a.tmps x).run P w = .ok v' w ∧ VRel μ v v' := by
  cases x with
  | tmp t =>
    simp only [cRes, Option.some.injEq] at hc; subst hc
    exact ⟨_, rfl, he.get t v hv⟩
  | cell t ty =>
    simp only [cRes] at hc
    obtain ⟨n, hn, e⟩ := map_some hc
    subst e
    simp only [resV] at hv
    split at hv
    · rename_i b o hx
      have hxr := he.get t _ hx
      generalize hxe : a.tmps.getD t undef = xe at hxr
      cases hxr with
      | @ptr _ _ bb d z hm =>
        split at hv
        · rename_i cs hcs
          obtain ⟨c, e, fz, h1, h2, h3, h4⟩ := getCells_sound r hm hcs
          obtain ⟨v', k1, k2⟩ := run_loadVarN (P := P) hn h1 h2 h4 h3 hv
          exact ⟨v', by simp only [resOne, hxe, asAddr, pure_bind]; exact k1, k2⟩
        · cases hv
    · cases hv

theorem resL_sound {B : Nat} {μ : Mu} {S : AS} {w : World} {N : Nat} {ρ : Env} {a : Act} (r : Rel B μ S w) (he : ERel μ N ρ a) : ∀ {xs : List ResultVar} {ys : List ARes}, cRess P xs = some ys → ∀ {vs : List Value}, resVs ρ S ys = some vs →
    ∃ vs', (xs.mapM (resOne a.tmps)).run P w = .ok vs' w ∧ LRel μ vs vs'
  | [], ys, hc, vs, hv => by
    simp only [cRess, Option.some.injEq] at hc; subst hc
    simp only [resVs, Option.some.injEq] at hv; subst hv
    exact ⟨[], by simp, .nil⟩
  | x :: xs, ys, hc, vs, hv => by
    simp only [cRess] at hc
    split at hc
    · rename_i y ys' h1 h2
      cases hc
      simp only [resVs] at hv
      split at hv
      · rename_i v vs' h3 h4
        cases hv
        obtain ⟨u, k1, k2⟩ := resOne_sound r he h1 h3
        obtain ⟨us, k3, k4⟩ := resL_sound r he h2 h4
        exact ⟨u :: us, by simp [List.mapM_cons, k1, k3], .cons k2 k4⟩
      · cases hv
    · cases hc

theorem results_sound {B : Nat} {μ : Mu} {S : AS} {w : World} {N : Nat} {ρ : Env} {a : Act} (r : Rel B μ S w) (he : ERel μ N ρ a) {fn : Func} {ys : List ARes} (hc : cRess P fn.results.toList = some ys) {v : Value} (hv : result ρ S ys = some v) :
    ∃ v', (results fn a.tmps).run P w = .ok v' w ∧ VRel μ v v' := by
  rw [results_eq, Array.mapM_eq_mapM_toList]
  unfold result at hv
  have fin : ∀ vs, resVs ρ S ys = some vs → ∃ vs', (fn.results.toList.mapM (resOne a.tmps)).run P w = .ok vs' w ∧ LRel μ vs vs' := fun vs h => resL_sound r he hc h
  split at hv
  · rename_i u hu
    cases hv
    obtain ⟨vs', h1, h2⟩ := fin _ hu
    cases h2 with | cons h3 h4 => cases h4; exact ⟨_, by simp [h1], h3⟩
  · rename_i vs hne hvs
    cases hv
    obtain ⟨vs', h1, h2⟩ := fin _ hvs
    have hl := h2.length
    refine ⟨.tuple vs'.toArray, ?_, .tuple (by simpa using h2)⟩
    have hne1 : vs'.length ≠ 1 := by
      intro e
      rw [e] at hl
      match vs, hl with
      | [u], _ => exact hne u rfl
    simp [h1, hne1]
  · cases hv

/-- A function's text, read. -/
def FunOk (P : Program) (f : FuncId) (af : AFun) : Prop :=
  ∃ fn c h N, P.funcs[f]? = some fn ∧ (fn.name == "runtime.NumGoroutine") = false ∧ fn.body = some c ∧ cCode P N h c = some af.body ∧ N ≤ fn.ntmps ∧ cRess P fn.results.toList = some af.res

def XOk (P : Program) (X : Nat → List Value → Option Value) : Prop :=
  ∀ f args v, X f args = some v → Callable P f ∧ ∀ (μ : Mu) (args' : Array Value), LRel μ args args'.toList → ∀ w, Calls P f args' w fun e w' => ∃ v', e = .returned v' ∧ VRel μ v v' ∧ RowKit.Below w.heap.size w w'

theorem argsE_look {vs : List Value} : ∀ {k t : Nat} {v : Value}, look (argsE k vs) t = some v → ∃ i, t = k + i ∧ vs[i]? = some v := by
  induction vs with
  | nil => intro k t v h; simp [argsE, look] at h
  | cons x vs ih =>
    intro k t v h
    simp only [argsE, look] at h
    split at h
    · rename_i e; cases h; exact ⟨0, by omega, rfl⟩
    · obtain ⟨i, h1, h2⟩ := ih h; exact ⟨i + 1, by omega, by simpa using h2⟩

theorem Rel.below {B : Nat} {μ : Mu} {S : AS} {w w' : World} (r : Rel B μ S w) (h : RowKit.Below w.heap.size w w') : Rel B μ S w' ∧ Fr S S μ μ w w' :=
  ⟨⟨fun i o hi => by obtain ⟨b, d, z, h1, h2, h3⟩ := r.obj i o hi; exact ⟨b, d, z, h1, h2.same (h.block b (r.mu i _ h1)), h3⟩, r.inj, fun i p hm => Nat.lt_of_lt_of_le (r.mu i p hm) h.size, Nat.le_trans r.size h.size⟩,
   ⟨h.os, h.tape, h.output, h.size, Sub.refl _, Nat.le_refl _, fun i p h1 h2 => (by rw [h1] at h2; cases h2), fun _ _ h _ => h, fun b hb _ => h.block b hb, fun i o p h1 h2 h3 _ => ⟨i, o, p, h1, h2, h3, rfl⟩⟩⟩

theorem wpF_sound {B : Nat} {G : Nat → Option AFun} {X : Nat → List Value → Option Value} (hP : P.follows .mixedOrders = true) (hG : ∀ f af, G f = some af → FunOk P f af) (hX : XOk P X) : ∀ k, FnsOk P B (wpF G X k)
  | 0 => fun f args S Q h => h.elim
  | k + 1 => fun f args S Q h => by
    unfold wpF at h
    split at h
    · rename_i af haf
      obtain ⟨fn, c, hh, N, h1, h2, h3, h4, h5, h6⟩ := hG f af haf
      refine ⟨⟨fn, h1, h2, by rw [h3]; rfl⟩, fun μ w args' r hb ha => ?_⟩
      refine calls_of_wp h1 h3 ?_
      have he : ERel μ N (argsE 0 args) { tmps := args' ++ Array.replicate (fn.ntmps - args'.size) undef, defers := [] } := by
        refine ⟨by simp; omega, fun t v hv => ?_⟩
        obtain ⟨i, e, hi⟩ := argsE_look hv
        rw [Nat.zero_add] at e; subst e
        obtain ⟨v', k1, k2⟩ := ha.get hi
        have hlt : t < args'.size := by
          rcases Nat.lt_or_ge t args'.size with h | h
          · exact h
          · rw [List.getElem?_eq_none (by simpa using h)] at k1; cases k1
        have : (args' ++ Array.replicate (fn.ntmps - args'.size) undef).getD t undef = v' := by
          rw [Array.getD_eq_getD_getElem?, Array.getElem?_append_left hlt]
          rw [Array.getElem?_toList] at k1
          rw [k1]; rfl
        rw [this]; exact k2
      refine wpC_sound hP (wpF_sound hP hG hX k) c hh af.body h4 r hb he h ?_
      intro x ρ' S' μ' w' a' hk r' e' f' d'
      have fin : (match result ρ' S' af.res with | some v => Q v S' | none => False) → a'.defers = [] ∧ ∃ v, (results fn a'.tmps).run P w' = .ok v w' ∧ CallQ B μ S w Q (.returned v) w' := by
        intro hk
        split at hk
        · rename_i v hv
          obtain ⟨v', k1, k2⟩ := results_sound r' e' h6 hv
          exact ⟨d', v', k1, v, v', μ', S', rfl, hk, k2, r', f'⟩
        · exact hk.elim
      cases x with
      | exit id => exact hk.elim
      | normal => exact fin hk
      | ret => exact fin hk
    · split at h
      · rename_i v hv
        obtain ⟨h1, h2⟩ := hX f args v hv
        refine ⟨h1, fun μ w args' r hb ha => (h2 μ args' ha w).mono ?_⟩
        rintro e w' ⟨v', rfl, hv', hb'⟩
        obtain ⟨r', f'⟩ := r.below hb'
        exact ⟨v, v', μ, S, rfl, h, hv', r', f'⟩
      · exact h.elim

end Go.Ax

/- From a run of the resolved code to the program's calls. -/
namespace Go.Ax
variable {P : Program}

def S0 : AS := ⟨fun _ => none, 0⟩

theorem rel_empty (w : World) : Rel w.heap.size (fun _ => none) S0 w :=
  ⟨fun i o h => by simp [S0] at h, fun i j o o' p q h => by simp [S0] at h, fun i p h => by simp at h, Nat.le_refl _⟩

/-- A run that starts with no memory in sight. -/
theorem calls_of_run {G : Nat → Option AFun} {X : Nat → List Value → Option Value} (hP : P.follows .mixedOrders = true) (hG : ∀ f af, G f = some af → FunOk P f af) (hX : XOk P X) {k f : Nat} {args : List Value} {b : Bool}
    (h : wpF G X k f args S0 fun v _ => v = .bool b) {args' : Array Value} (ha : LRel (fun _ => none) args args'.toList) (w : World) :
    Calls P f args' w fun e w' => e = .returned (.bool b) ∧ RowKit.Below w.heap.size w w' := by
  obtain ⟨_, h2⟩ := wpF_sound (B := w.heap.size) hP hG hX k f args S0 _ h
  refine (h2 (fun _ => none) w args' (rel_empty w) (fun _ _ => rfl) ha).mono ?_
  rintro e w' ⟨v, v', μ', S', rfl, rfl, hv, hr, hf⟩
  cases hv
  exact ⟨rfl, hf.below (rel_empty w)⟩

/-- A closed run, told as known. -/
theorem xok_of_run {G : Nat → Option AFun} {X : Nat → List Value → Option Value} (hP : P.follows .mixedOrders = true) (hG : ∀ f af, G f = some af → FunOk P f af) (hX : XOk P X) {k f : Nat} {b : Bool}
    (h : wpF G X k f [] S0 fun v _ => v = .bool b) : XOk P fun f' args => if f' = f ∧ args.isEmpty then some (.bool b) else none := by
  intro f' args v hv
  simp only at hv
  split at hv
  · rename_i hc
    obtain ⟨rfl, hc⟩ := hc
    cases hv
    simp only [List.isEmpty_iff] at hc
    subst hc
    refine ⟨(wpF_sound (B := 0) hP hG hX k _ _ _ _ h).1, fun μ args' ha w => ?_⟩
    have : args'.toList = [] := by generalize args'.toList = l at ha; cases ha; rfl
    refine (calls_of_run hP hG hX h (by rw [this]; exact .nil) w).mono ?_
    rintro e w' ⟨rfl, hb⟩
    exact ⟨_, rfl, .bool b, hb⟩
  · cases hv

end Go.Ax

