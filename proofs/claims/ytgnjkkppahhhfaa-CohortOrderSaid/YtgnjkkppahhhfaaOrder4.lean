/- Part 4 of Order. -/
import Derived.Test.YtgnjkkppahhhfaaOrder3
set_option linter.unusedVariables false
set_option linter.unusedSimpArgs false
set_option linter.unnecessarySimpa false
/- Law 14: who waits, in which order, and how long. -/
namespace Go.Proofs.Ytgnjkkppahhhfaa
open Go.Ax
open Go.Ax.Enc (enc)

instance : Enc (Int × Int) 2 := ⟨fun p => [.int .i64 p.1, .int .i64 p.2], fun _ => rfl⟩
theorem enc_pair (p : Int × Int) : enc p = [.int .i64 p.1, .int .i64 p.2] := rfl

theorem SlT.fresh {α : Type} {esz : Nat} [Go.Ax.Enc α esz] {R : Nat → Option (List Value)} {A : List Asn} {S : AS} {b : Nat} {l : List α} (h : St R (pts b (encs l) :: A) S) : St R (SlT (.slice (some ⟨b, 0, none⟩) l.length l.length) l :: A) S :=
  h.imp fun h k => ⟨encs_len l, .inr ⟨b, none, [], l.length, [], .inl rfl, rfl, by simpa [pts, obj] using k, by rw [List.append_nil, encs_len]; exact Nat.le_refl _, Nat.le_refl _⟩⟩

theorem split_first (s t : Int) (ts : List Int) : ∀ W : List (Int × Int), (W.filter fun w => decide (w.2 = s)).map (·.1) = t :: ts → ∃ A B, W = A ++ (t, s) :: B ∧ (∀ w ∈ A, w.2 ≠ s) ∧ ts = (B.filter fun w => decide (w.2 = s)).map (·.1)
  | [], h => by cases h
  | w :: W, h => by
    by_cases e : w.2 = s
    · rw [List.filter_cons, if_pos (by simpa using e), List.map_cons, List.cons.injEq] at h
      obtain ⟨a, b⟩ := w
      simp only at h e
      exact ⟨[], W, by rw [← h.1, ← e]; rfl, fun _ hw => absurd hw (by simp), h.2.symm⟩
    · rw [List.filter_cons, if_neg (by simpa using e)] at h
      obtain ⟨A, B, h1, h2, h3⟩ := split_first s t ts W h
      exact ⟨w :: A, B, by rw [h1]; rfl, fun x hx => (List.mem_cons.1 hx).elim (fun k => k ▸ e) (h2 x), h3⟩

/-- What is so between two calls. -/
structure OrdI (k : Nat) (m : LockM) (o : List Int) (f : Int → List Int) (W : List (Int × Int)) (L : List Int) : Prop where
  b : LkB k m o f
  fw : ∀ s, f s = (W.filter fun w => decide (w.2 = s)).map (·.1)
  nd : (W.map (·.1)).Nodup
  rng : ∀ w ∈ W, 0 ≤ w.2 ∧ w.2 ≤ 5
  ok : okL (dd m.socket m.passes o) (fun _ => 0) W L
  top : ∀ l ∈ L, l ≤ 2000
  len : W.length ≤ k

section
variable {k : Nat} {m : LockM} {o : List Int} {f : Int → List Int} {W : List (Int × Int)} {L : List Int}

theorem OrdI.memo (h : OrdI k m o f W L) {w : Int × Int} (hw : w ∈ W) : w.2 ∈ o := by
  by_cases e : w.2 ∈ o
  · exact e
  · have h1 := h.b.rep.none _ e
    rw [h.fw] at h1
    have : w.1 ∈ (W.filter fun x => decide (x.2 = w.2)).map (·.1) := List.mem_map_of_mem (List.mem_filter.2 ⟨hw, by simp⟩)
    rw [h1] at this; cases this

theorem OrdI.wit (h : OrdI k m o f W L) {s : Int} (hs : s ∈ o) : ∃ w ∈ W, w.2 = s := by
  have h1 := h.b.rep.full _ hs
  rw [h.fw] at h1
  obtain ⟨t, ht⟩ := List.exists_mem_of_ne_nil _ h1
  obtain ⟨w, hw, rfl⟩ := List.mem_map.1 ht
  obtain ⟨h2, h3⟩ := List.mem_filter.1 hw
  exact ⟨w, h2, by simpa using h3⟩

theorem OrdI.six (h : OrdI k m o f W L) : o.length ≤ 6 := by
  have := nodup_len [0, 1, 2, 3, 4, 5] o h.b.rep.nd fun s hs => by
    obtain ⟨w, hw, rfl⟩ := h.wit hs
    have := h.rng w hw
    simp only [List.mem_cons, List.not_mem_nil, or_false]
    omega
  simpa using this

theorem OrdI.zero : OrdI 0 lock0 [] (fun _ => []) [] [] := ⟨LkB.zero, fun _ => rfl, List.nodup_nil, fun _ h => absurd h (by simp), trivial, fun _ h => absurd h (by simp), Nat.le_refl _⟩

theorem OrdI.more (h : OrdI k m o f W L) : OrdI (k + 1) m o f W L := ⟨h.b.more (by omega), h.fw, h.nd, h.rng, h.ok, h.top, by have := h.len; omega⟩

theorem OrdI.empty (h : OrdI k m o f W L) (ho : o = []) : W = [] ∧ L = [] := by
  have hW : W = [] := by
    cases hW : W with
    | nil => rfl
    | cons w W' =>
      have := h.memo (w := w) (by rw [hW]; simp)
      rw [ho] at this; cases this
  refine ⟨hW, ?_⟩
  have := okL_len h.ok
  rw [hW] at this
  exact List.eq_nil_of_length_eq_zero this.symm

/-- One more waits. -/
theorem OrdI.add (h : OrdI k m o f W L) (hk : k ≤ 80) {t s : Int} (hw : waitsM m t = false) (hs : 0 ≤ s ∧ s ≤ 5) {rows' : List (Int × List Int)} (hB : LkB (k + 1) { m with rows := rows' } (addO o s) (upF f s (f s ++ [t]))) {l : Int} (hl : l = (((W.filter fun w => decide (w.2 = s)).length : Int) + 1) * 6 * 4) :
    OrdI (k + 1) { m with rows := rows' } (addO o s) (upF f s (f s ++ [t])) (W ++ [(t, s)]) (L ++ [l]) := by
  have hno : ∀ w ∈ W, w.1 ≠ t := fun w hw' e => by
    have := (h.b.waits t).2 ⟨w.2, h.memo hw', by rw [h.fw, ← e]; exact List.mem_map_of_mem (List.mem_filter.2 ⟨hw', by simp⟩)⟩
    rw [hw] at this; cases this
  have hrng : ∀ w ∈ W ++ [(t, s)], 0 ≤ w.2 ∧ w.2 ≤ 5 := fun w hw' => by
    rcases List.mem_append.1 hw' with h1 | h1
    · exact h.rng w h1
    · simp only [List.mem_singleton] at h1; subst h1; exact hs
  have hfw : ∀ s', upF f s (f s ++ [t]) s' = ((W ++ [(t, s)]).filter fun w => decide (w.2 = s')).map (·.1) := fun s' => by
    rw [List.filter_append, List.map_append, ← h.fw]
    by_cases e : s' = s
    · subst e; rw [upF_same]; simp
    · rw [upF_ne e]; simp [Ne.symm e]
  have hlen := h.len
  have hfl := List.length_filter_le (fun w : Int × Int => decide (w.2 = s)) W
  have h6 : (addO o s).length ≤ 6 := by
    have := nodup_len [0, 1, 2, 3, 4, 5] (addO o s) hB.rep.nd fun s' hs' => by
      have h1 := hB.rep.full s' hs'
      rw [hfw] at h1
      obtain ⟨t', ht'⟩ := List.exists_mem_of_ne_nil _ h1
      obtain ⟨w, hw, rfl⟩ := List.mem_map.1 ht'
      obtain ⟨h2, h3⟩ := List.mem_filter.1 hw
      have := hrng w h2
      simp only [decide_eq_true_eq] at h3
      simp only [List.mem_cons, List.not_mem_nil, or_false]
      omega
    simpa using this
  have hsm : s ∈ addO o s := by
    unfold addO
    split
    · assumption
    · simp
  refine ⟨hB, hfw, ?_, hrng, okL_snoc (okL_congr (fun w hw' => ?_) h.ok) ?_, fun x hx => ?_, by simp; omega⟩
  · rw [List.map_append]
    refine List.nodup_append.2 ⟨h.nd, by simp, fun a ha b hb => ?_⟩
    simp only [List.map_cons, List.map_nil, List.mem_singleton] at hb
    subst hb
    obtain ⟨w, hw', rfl⟩ := List.mem_map.1 ha
    exact hno w hw'
  · show dd m.socket m.passes (addO o s) w.2 ≤ _
    rw [dd_add (h.memo hw')]
    exact Int.le_refl _
  · have := dd_le (c := m.socket) hsm h6 h.b.ps0
    show 24 * ((0 + (W.filter fun x => decide (x.2 = s)).length : Nat) : Int) + dd m.socket m.passes (addO o s) s ≤ l
    rw [hl, Nat.zero_add]
    omega
  · rcases List.mem_append.1 hx with h1 | h1
    · exact h.top x h1
    · simp only [List.mem_singleton] at h1
      subst h1
      omega

/-- One is told. -/
theorem OrdI.tell (h : OrdI k m o f W L) {to t' : Int} {ts : List Int} (hto : to ∈ o) (hft : f to = t' :: ts) {m6 : LockM} {o' : List Int} (hB : LkB (k + 1) m6 o' (upF f to ts))
    (hc : (to = m.socket ∧ m6.socket = m.socket ∧ m6.passes = m.passes + 1 ∧ (m.passes < 3 ∨ o.length = 1) ∧ o' = cutO o f to) ∨
       (to ≠ m.socket ∧ m6.socket = to ∧ m6.passes = 0 ∧ ¬ (m.socket ∈ o ∧ (m.passes < 3 ∨ o.length = 1)) ∧ (∃ pre post, o = pre ++ to :: post ∧ ∀ x ∈ pre, x = m.socket) ∧ o' = endO (cutO o f to) m.socket)) :
    ∃ A B, W = A ++ (t', to) :: B ∧ (∀ w ∈ A, w.2 ≠ to) ∧ (∀ l ∈ L, 0 < l) ∧ OrdI (k + 1) m6 o' (upF f to ts) (A ++ B) ((L.map (· - 1)).eraseIdx A.length) := by
  have h1 := h.fw to
  rw [hft] at h1
  obtain ⟨A, B, hW, hA, hts⟩ := split_first to t' ts W h1.symm
  refine ⟨A, B, hW, hA, okL_pos (fun s => by have := dd_pos m.socket m.passes o s; omega) h.ok, ?_⟩
  have hsub : ∀ w ∈ A ++ B, w ∈ W := fun w hw => by
    rw [hW]
    rcases List.mem_append.1 hw with h | h
    · exact List.mem_append_left _ h
    · exact List.mem_append_right _ (List.mem_cons_of_mem _ h)
  have h6 := h.six
  have hlen := h.len
  have hd : ∀ w ∈ A ++ B, w.2 ≠ to → dd m6.socket m6.passes o' w.2 + 1 ≤ dd m.socket m.passes o w.2 := by
    intro w hw hne
    have hwo := h.memo (hsub w hw)
    rcases hc with ⟨c1, c2, c3, c4, c5⟩ | ⟨c1, c2, c3, c4, ⟨pre, post, c6, c7⟩, c5⟩
    · rw [c2, c3, c5, c1]
      have hp : m.passes < 3 := by
        rcases c4 with c4 | c4
        · exact c4
        · exfalso
          obtain ⟨x, hx⟩ := List.length_eq_one_iff.1 c4
          rw [hx] at hwo hto
          simp only [List.mem_singleton] at hwo hto
          exact hne (by rw [hwo, hto])
      exact dd_stay (by rw [← c1]; exact hne) hp
    · rw [c2, c3, c5]
      by_cases e : w.2 = m.socket
      · rw [e]
        rw [e] at hwo
        have hp : ¬ m.passes < 3 := fun hp => c4 ⟨hwo, .inl hp⟩
        have hnd := hB.rep.nd
        rw [c5] at hnd
        exact dd_back h6 hnd h.b.rep.nd c1 hwo hto hp
      · exact dd_away h.b.rep.nd c6 c7 c1 hwo e hne
  have ht : dd m6.socket m6.passes o' to ≤ 23 := by
    rcases hc with ⟨c1, c2, _⟩ | ⟨c1, c2, _⟩
    · rw [c2, c1]; have := dd_own (c := m.socket) (ps := m6.passes) (o := o'); omega
    · rw [c2]; have := dd_own (c := to) (ps := m6.passes) (o := o'); omega
  refine ⟨hB, fun s => ?_, ?_, fun w hw => h.rng w (hsub w hw), ?_, fun l hl => ?_, ?_⟩
  · by_cases e : s = to
    · subst e
      rw [upF_same, hts, List.filter_append]
      have : (A.filter fun w => decide (w.2 = s)) = [] := List.filter_eq_nil_iff.2 fun w hw => by simpa using hA w hw
      rw [this, List.nil_append]
    · rw [upF_ne e, h.fw, hW, List.filter_append, List.filter_append, List.filter_cons, if_neg (by simpa using Ne.symm e)]
  · refine h.nd.sublist (List.Sublist.map _ ?_)
    rw [hW]
    exact List.Sublist.append (List.Sublist.refl _) (List.sublist_cons_self _ _)
  · have hok := h.ok
    rw [hW] at hok
    exact okL_tell (a := (t', to)) ht (fun s => by have := dd_pos m.socket m.passes o s; omega) hA hd hok
  · obtain ⟨x, hx, rfl⟩ := List.mem_map.1 (List.mem_of_mem_eraseIdx hl)
    have := h.top x hx
    show x - 1 ≤ 2000
    omega
  · rw [hW] at hlen
    simp at hlen ⊢
    omega
end

end Go.Proofs.Ytgnjkkppahhhfaa

/- Law 14: CohortOrder. -/
namespace Go.Proofs.Ytgnjkkppahhhfaa
open Go.Ax
open Go.Ax.Enc (enc)

theorem nodup_at {α : Type} {l : List α} (h : l.Nodup) {i j : Nat} (hi : i < l.length) (hj : j < l.length) (e : l[i] = l[j]) : i = j := by
  have h1 := List.pairwise_iff_getElem.1 h
  rcases Nat.lt_trichotomy i j with k | k | k
  · exact absurd e (h1 i j hi hj k)
  · exact k
  · exact absurd e.symm (h1 j i hj hi k)

/-- The first so many, one less each. -/
def less (L : List Int) (j : Nat) : List Int := (L.take j).map (· - 1) ++ L.drop j

theorem less_len (L : List Int) {j : Nat} (hj : j ≤ L.length) : (less L j).length = L.length := by simp [less]; omega
theorem less_get (L : List Int) {j : Nat} (hj : j < L.length) (h : j < (less L j).length) : (less L j)[j] = L[j] := by
  have h2 : (less L j)[j]? = some L[j] := by
    unfold less
    rw [List.getElem?_append_right (by simp; omega), List.getElem?_drop, List.length_map, List.length_take, Nat.min_eq_left (by omega), Nat.sub_self, Nat.add_zero, List.getElem?_eq_getElem hj]
  rw [List.getElem?_eq_getElem h] at h2
  exact Option.some.inj h2
theorem less_set (L : List Int) {j : Nat} (hj : j < L.length) : (less L j).set j (L[j] - 1) = less L (j + 1) := by
  unfold less
  rw [List.set_append_right _ _ (by simp; omega)]
  have e : j - (List.map (· - 1) (List.take j L)).length = 0 := by simp; omega
  rw [e, List.drop_eq_getElem_cons hj, List.set_cons_zero, List.take_succ_eq_append_getElem hj, List.map_append]
  simp

set_option maxHeartbeats 4000000 in
theorem cohortOrder_law {R : Nat → Option (List Value)} {v : Value} {ops : List Op} (hin : RIn R v ops) (hk : ∀ x ∈ ops, 0 ≤ x.kind ∧ x.kind < 2 ^ 64) : Law G XL 3 [v] R := by
  intro F S H
  refine Ev.fnR (rs := R3) (c := A3) rfl ?_; unfold A3
  obtain ⟨l, hl⟩ : ∃ l, l = ops.take 80 := ⟨_, rfl⟩
  obtain ⟨v', e1, hv'⟩ := hin.slice H (lo := 0) (hi := l.length) (Nat.zero_le _) (by rw [hl]; simp; omega) none (some (.int .i64 l.length)) (.inl ⟨rfl, rfl⟩) (.inr ⟨_, rfl⟩)
  have hl' : ops.take l.length = l := by rw [hl]; simp [List.take_take]
  rw [List.drop_zero, Nat.sub_zero, hl'] at hv'
  have hmin : minV (.int .i64 ops.length) (.int .i64 80) = some (.int .i64 l.length) := by
    simp only [minV, hl, List.length_take]
    congr 2
    split <;> omega
  have hl80 : l.length ≤ 80 := by rw [hl]; simp; omega
  have hkl' : ∀ x ∈ l, 0 ≤ x.kind ∧ x.kind < 2 ^ 64 := fun x hx => hk x (by rw [hl] at hx; exact List.mem_of_mem_take hx)
  clear hl hl' hk
  have hvl := hin.len H
  have hvl' := hv'.len H
  repeat' (first
      | (with_reducible first | refine go_assoc ?_ (Ev.mono _ _) | refine go_skip ?_ | refine go_fin ?_ | refine go_ret ?_ | refine go_ret0 ?_ | refine go_exit ?_ | refine go_exit0 ?_ | refine go_block ?_ | refine n_then ?_ | refine x_then ?_ | refine r_then ?_ | refine n_block ?_ | refine r_block ?_ | refine x_block ?_ | refine x_block_ne ?_ (by decide))
      | (with_reducible refine is_k ?_; refine go_k _ (by simp only [Ax.runK, Ax.runOps, Ax.run1, Ax.wantA, Ax.step, Ax.ev, Ax.evs, Ax.evo, Ax.evp, Ax.look, Ax.putE, Ax.keepE, Ax.argsE, Ax.extr, Ax.binV, Ax.intBin, Ax.unV, Ax.addOff, Ax.sizeN, Ax.mkV, Ax.okV, reduceIte, Nat.reduceEqDiff, Nat.reduceAdd, Nat.reduceLeDiff, Nat.reduceLT, Nat.reduceSub, Nat.reduceMul, reduceCtorEq, Int.reduceEq, Int.reduceLT, Int.reduceLE, Int.reduceAdd, Int.reduceSub, Int.reduceNeg, Int.reduceToNat, undef, Value.cells, axL, hvl, hmin, e1, hvl']; rfl) rfl ?_)
      | (with_reducible refine cond_t ?_ ?_; · simp only [Ax.ev, Ax.look, reduceIte, Nat.reduceEqDiff])
      | (with_reducible refine cond_f ?_ ?_; · simp only [Ax.ev, Ax.look, reduceIte, Nat.reduceEqDiff])
      | (with_reducible refine is_rp ?_; first | refine r_postR rfl ?_ | refine r_postR (by simp only [Ax.result, Ax.resVs, Ax.resV, R3, Ax.look, sizeN, mkV, Nat.reduceEqDiff, reduceIte, axL, hvl, hmin, e1, hvl']; rfl) ?_)
      | (with_reducible refine is_np ?_; first | refine n_postR rfl ?_ | refine n_postR (by simp only [Ax.result, Ax.resVs, Ax.resV, R3, Ax.look, sizeN, mkV, Nat.reduceEqDiff, reduceIte, axL, hvl, hmin, e1, hvl']; rfl) ?_)
      | (first | with_reducible refine is_wd ?_ | with_reducible refine dk_wd ?_); refine go_dt _ (by simp only [Ax.runDK, Ax.runDT, Ax.runDops, Ax.run1d, Ax.recs, Ax.okPair, Ax.idsE, Ax.idsV, AOp.mems, AOp.isWrite, DRec.none, axD, Ax.runK, Ax.runOps, Ax.run1, Ax.wantA, Ax.step, Ax.ev, Ax.evs, Ax.evo, Ax.evp, Ax.look, Ax.putE, Ax.keepE, Ax.argsE, Ax.extr, Ax.binV, Ax.intBin, Ax.unV, Ax.addOff, Ax.sizeN, Ax.mkV, Ax.okV, reduceIte, Nat.reduceEqDiff, Nat.reduceAdd, Nat.reduceLeDiff, Nat.reduceLT, Nat.reduceSub, Nat.reduceMul, reduceCtorEq, Int.reduceEq, Int.reduceLT, Int.reduceLE, Int.reduceAdd, Int.reduceSub, Int.reduceNeg, Int.reduceToNat, undef, Value.cells, axL, hvl, hmin, e1, hvl']; rfl) rfl ?_
      | (with_reducible first | refine end_reg (Ev.mono _ _) ?_ | refine end_dreg (Ev.mono _ _) ?_ | refine end_cond (Ev.mono _ _) ?_ | refine end_block (Ev.mono _ _) ?_ | refine end_loop (Ev.mono _ _) ?_))
  repeat' (with_reducible first | refine go_assoc ?_ (Ev.mono _ _) | refine go_skip ?_ | refine go_block ?_ | refine end_reg (Ev.mono _ _) ?_)
  refine go_callC _ (by simp only [Ax.runC, AOp.isCall, Ax.runK, Ax.runOps, Ax.run1, Ax.wantA, Ax.step, Ax.ev, Ax.evs, Ax.evo, Ax.evp, Ax.look, Ax.putE, Ax.keepE, Ax.argsE, Ax.extr, Ax.binV, Ax.intBin, Ax.unV, Ax.addOff, Ax.sizeN, Ax.mkV, Ax.okV, reduceIte, Nat.reduceEqDiff, Nat.reduceAdd, Nat.reduceLeDiff, Nat.reduceLT, Nat.reduceSub, Nat.reduceMul, reduceCtorEq, Int.reduceEq, Int.reduceLT, Int.reduceLE, Int.reduceAdd, Int.reduceSub, Int.reduceNeg, Int.reduceToNat, undef, Value.cells, axL]; rfl) rfl rfl (by simp only [Ax.wantA, Ax.look, reduceIte, Nat.reduceEqDiff, bq_t, bq_f, Bool.not_true, Bool.not_false]; try rfl) rfl (by simp only [Ax.runK, Ax.runOps, Ax.run1, Ax.wantA, Ax.step, Ax.ev, Ax.evs, Ax.evo, Ax.evp, Ax.look, Ax.putE, Ax.keepE, Ax.argsE, Ax.extr, Ax.binV, Ax.intBin, Ax.unV, Ax.addOff, Ax.sizeN, Ax.mkV, Ax.okV, reduceIte, Nat.reduceEqDiff, Nat.reduceAdd, Nat.reduceLeDiff, Nat.reduceLT, Nat.reduceSub, Nat.reduceMul, reduceCtorEq, Int.reduceEq, Int.reduceLT, Int.reduceLE, Int.reduceAdd, Int.reduceSub, Int.reduceNeg, Int.reduceToNat, undef, Value.cells, axL]; try rfl) ?_
  refine new_spec XL H 1 (fun L S1 H1 => ?_)
  have hc : List.replicate (lockCount 1) lock0 = [lock0] := rfl
  rw [hc] at H1
  have H2 := SlT.nil (α := Int × Int) (SlT.nil (α := Int) H1)
  repeat' (first
      | (with_reducible first | refine go_assoc ?_ (Ev.mono _ _) | refine go_skip ?_ | refine go_fin ?_ | refine go_ret ?_ | refine go_ret0 ?_ | refine go_exit ?_ | refine go_exit0 ?_ | refine go_block ?_ | refine n_then ?_ | refine x_then ?_ | refine r_then ?_ | refine n_block ?_ | refine r_block ?_ | refine x_block ?_ | refine x_block_ne ?_ (by decide))
      | (with_reducible refine is_k ?_; refine go_k _ (by simp only [Ax.runK, Ax.runOps, Ax.run1, Ax.wantA, Ax.step, Ax.ev, Ax.evs, Ax.evo, Ax.evp, Ax.look, Ax.putE, Ax.keepE, Ax.argsE, Ax.extr, Ax.binV, Ax.intBin, Ax.unV, Ax.addOff, Ax.sizeN, Ax.mkV, Ax.okV, reduceIte, Nat.reduceEqDiff, Nat.reduceAdd, Nat.reduceLeDiff, Nat.reduceLT, Nat.reduceSub, Nat.reduceMul, reduceCtorEq, Int.reduceEq, Int.reduceLT, Int.reduceLE, Int.reduceAdd, Int.reduceSub, Int.reduceNeg, Int.reduceToNat, undef, Value.cells, axL, hvl']; rfl) rfl ?_)
      | (with_reducible refine cond_t ?_ ?_; · simp only [Ax.ev, Ax.look, reduceIte, Nat.reduceEqDiff])
      | (with_reducible refine cond_f ?_ ?_; · simp only [Ax.ev, Ax.look, reduceIte, Nat.reduceEqDiff])
      | (with_reducible refine is_rp ?_; first | refine r_postR rfl ?_ | refine r_postR (by simp only [Ax.result, Ax.resVs, Ax.resV, R3, Ax.look, sizeN, mkV, Nat.reduceEqDiff, reduceIte, axL, hvl']; rfl) ?_)
      | (with_reducible refine is_np ?_; first | refine n_postR rfl ?_ | refine n_postR (by simp only [Ax.result, Ax.resVs, Ax.resV, R3, Ax.look, sizeN, mkV, Nat.reduceEqDiff, reduceIte, axL, hvl']; rfl) ?_)
      | (first | with_reducible refine is_wd ?_ | with_reducible refine dk_wd ?_); refine go_dt _ (by simp only [Ax.runDK, Ax.runDT, Ax.runDops, Ax.run1d, Ax.recs, Ax.okPair, Ax.idsE, Ax.idsV, AOp.mems, AOp.isWrite, DRec.none, axD, Ax.runK, Ax.runOps, Ax.run1, Ax.wantA, Ax.step, Ax.ev, Ax.evs, Ax.evo, Ax.evp, Ax.look, Ax.putE, Ax.keepE, Ax.argsE, Ax.extr, Ax.binV, Ax.intBin, Ax.unV, Ax.addOff, Ax.sizeN, Ax.mkV, Ax.okV, reduceIte, Nat.reduceEqDiff, Nat.reduceAdd, Nat.reduceLeDiff, Nat.reduceLT, Nat.reduceSub, Nat.reduceMul, reduceCtorEq, Int.reduceEq, Int.reduceLT, Int.reduceLE, Int.reduceAdd, Int.reduceSub, Int.reduceNeg, Int.reduceToNat, undef, Value.cells, axL, hvl']; rfl) rfl ?_
      | (with_reducible first | refine end_reg (Ev.mono _ _) ?_ | refine end_dreg (Ev.mono _ _) ?_ | refine end_cond (Ev.mono _ _) ?_ | refine end_block (Ev.mono _ _) ?_ | refine end_loop (Ev.mono _ _) ?_))
  refine go_loop (Ev.mono _ _) (fun (g : Nat × LockM × List Int × (Int → List Int) × List (Int × Int) × List Int × Value × Value) ρ S' => g.1 ≤ l.length ∧ OrdI g.1 g.2.1 g.2.2.1 g.2.2.2.1 g.2.2.2.2.1 g.2.2.2.2.2.1 ∧ ρ = [(33, .int .i64 g.1), (5, g.2.2.2.2.2.2.2), (4, g.2.2.2.2.2.2.1), (3, .pointer (some ⟨L, 0, none⟩)), (31, v'), (32, .int .i64 l.length)] ∧ St R (SlT g.2.2.2.2.2.2.1 g.2.2.2.2.1 :: SlT g.2.2.2.2.2.2.2 g.2.2.2.2.2.1 :: LocksA L [g.2.1] :: F) S') (fun g => l.length - g.1) (0, lock0, [], fun _ => [], [], [], .slice none 0 0, .slice none 0 0) ⟨Nat.zero_le _, OrdI.zero, rfl, H2⟩ ?_
  clear H2 H1 H
  rintro ⟨k, m, o, f, W, Lf, wv, lv⟩ ρ S2 ⟨hk, hI, rfl, H2⟩
  dsimp only at hk hI H2
  have wk : IntKind.wrap .i64 ((k : Int) + 1) = ((k + 1 : Nat) : Int) := wrapI (n := (k : Int) + 1) (by unfold I64; omega)
  have hWlen := hI.len
  have hLlen := okL_len hI.ok
  repeat' (first
      | (with_reducible first | refine go_assoc ?_ (Ev.mono _ _) | refine go_skip ?_ | refine go_fin ?_ | refine go_ret ?_ | refine go_ret0 ?_ | refine go_exit ?_ | refine go_exit0 ?_ | refine go_block ?_ | refine n_then ?_ | refine x_then ?_ | refine r_then ?_ | refine n_block ?_ | refine r_block ?_ | refine x_block ?_ | refine x_block_ne ?_ (by decide))
      | (with_reducible refine is_k ?_; refine go_k _ (by simp only [Ax.runK, Ax.runOps, Ax.run1, Ax.wantA, Ax.step, Ax.ev, Ax.evs, Ax.evo, Ax.evp, Ax.look, Ax.putE, Ax.keepE, Ax.argsE, Ax.extr, Ax.binV, Ax.intBin, Ax.unV, Ax.addOff, Ax.sizeN, Ax.mkV, Ax.okV, reduceIte, Nat.reduceEqDiff, Nat.reduceAdd, Nat.reduceLeDiff, Nat.reduceLT, Nat.reduceSub, Nat.reduceMul, reduceCtorEq, Int.reduceEq, Int.reduceLT, Int.reduceLE, Int.reduceAdd, Int.reduceSub, Int.reduceNeg, Int.reduceToNat, undef, Value.cells, axL]; rfl) rfl ?_)
      | (with_reducible refine cond_t ?_ ?_; · simp only [Ax.ev, Ax.look, reduceIte, Nat.reduceEqDiff])
      | (with_reducible refine cond_f ?_ ?_; · simp only [Ax.ev, Ax.look, reduceIte, Nat.reduceEqDiff])
      | (with_reducible refine is_rp ?_; first | refine r_postR rfl ?_ | refine r_postR (by simp only [Ax.result, Ax.resVs, Ax.resV, R3, Ax.look, sizeN, mkV, Nat.reduceEqDiff, reduceIte, axL]; rfl) ?_)
      | (with_reducible refine is_np ?_; first | refine n_postR rfl ?_ | refine n_postR (by simp only [Ax.result, Ax.resVs, Ax.resV, R3, Ax.look, sizeN, mkV, Nat.reduceEqDiff, reduceIte, axL]; rfl) ?_)
      | (first | with_reducible refine is_wd ?_ | with_reducible refine dk_wd ?_); refine go_dt _ (by simp only [Ax.runDK, Ax.runDT, Ax.runDops, Ax.run1d, Ax.recs, Ax.okPair, Ax.idsE, Ax.idsV, AOp.mems, AOp.isWrite, DRec.none, axD, Ax.runK, Ax.runOps, Ax.run1, Ax.wantA, Ax.step, Ax.ev, Ax.evs, Ax.evo, Ax.evp, Ax.look, Ax.putE, Ax.keepE, Ax.argsE, Ax.extr, Ax.binV, Ax.intBin, Ax.unV, Ax.addOff, Ax.sizeN, Ax.mkV, Ax.okV, reduceIte, Nat.reduceEqDiff, Nat.reduceAdd, Nat.reduceLeDiff, Nat.reduceLT, Nat.reduceSub, Nat.reduceMul, reduceCtorEq, Int.reduceEq, Int.reduceLT, Int.reduceLE, Int.reduceAdd, Int.reduceSub, Int.reduceNeg, Int.reduceToNat, undef, Value.cells, axL]; rfl) rfl ?_
      | (with_reducible first | refine end_reg (Ev.mono _ _) ?_ | refine end_dreg (Ev.mono _ _) ?_ | refine end_cond (Ev.mono _ _) ?_ | refine end_block (Ev.mono _ _) ?_ | refine end_loop (Ev.mono _ _) ?_))
  refine cond_d rfl (fun hlt => ?_) (fun hlt => ?_)
  · have hkl : k < l.length := by omega
    obtain ⟨b, a, f1, f2, f3, f4⟩ := RdT.at (hv'.rd H2) hkl .i64
    obtain ⟨od, hod⟩ : ∃ od, od = l[k] := ⟨_, rfl⟩
    have hkd := hkl' l[k] (List.getElem_mem hkl)
    rw [← hod] at f3 f4 hkd
    rw [enc_op] at f3
    repeat' (first
        | (with_reducible first | refine go_assoc ?_ (Ev.mono _ _) | refine go_skip ?_ | refine go_fin ?_ | refine go_ret ?_ | refine go_ret0 ?_ | refine go_exit ?_ | refine go_exit0 ?_ | refine go_block ?_ | refine n_then ?_ | refine x_then ?_ | refine r_then ?_ | refine n_block ?_ | refine r_block ?_ | refine x_block ?_ | refine x_block_ne ?_ (by decide))
        | (with_reducible refine is_k ?_; refine go_k _ (by simp only [Ax.runK, Ax.runOps, Ax.run1, Ax.wantA, Ax.step, Ax.ev, Ax.evs, Ax.evo, Ax.evp, Ax.look, Ax.putE, Ax.keepE, Ax.argsE, Ax.extr, Ax.binV, Ax.intBin, Ax.unV, Ax.addOff, Ax.sizeN, Ax.mkV, Ax.okV, reduceIte, Nat.reduceEqDiff, Nat.reduceAdd, Nat.reduceLeDiff, Nat.reduceLT, Nat.reduceSub, Nat.reduceMul, reduceCtorEq, Int.reduceEq, Int.reduceLT, Int.reduceLE, Int.reduceAdd, Int.reduceSub, Int.reduceNeg, Int.reduceToNat, undef, Value.cells, axL, f1, f3]; rfl) rfl ?_)
        | (with_reducible refine cond_t ?_ ?_; · simp only [Ax.ev, Ax.look, reduceIte, Nat.reduceEqDiff])
        | (with_reducible refine cond_f ?_ ?_; · simp only [Ax.ev, Ax.look, reduceIte, Nat.reduceEqDiff])
        | (with_reducible refine is_rp ?_; first | refine r_postR rfl ?_ | refine r_postR (by simp only [Ax.result, Ax.resVs, Ax.resV, R3, Ax.look, sizeN, mkV, Nat.reduceEqDiff, reduceIte, axL, f1, f3]; rfl) ?_)
        | (with_reducible refine is_np ?_; first | refine n_postR rfl ?_ | refine n_postR (by simp only [Ax.result, Ax.resVs, Ax.resV, R3, Ax.look, sizeN, mkV, Nat.reduceEqDiff, reduceIte, axL, f1, f3]; rfl) ?_)
        | (first | with_reducible refine is_wd ?_ | with_reducible refine dk_wd ?_); refine go_dt _ (by simp only [Ax.runDK, Ax.runDT, Ax.runDops, Ax.run1d, Ax.recs, Ax.okPair, Ax.idsE, Ax.idsV, AOp.mems, AOp.isWrite, DRec.none, axD, Ax.runK, Ax.runOps, Ax.run1, Ax.wantA, Ax.step, Ax.ev, Ax.evs, Ax.evo, Ax.evp, Ax.look, Ax.putE, Ax.keepE, Ax.argsE, Ax.extr, Ax.binV, Ax.intBin, Ax.unV, Ax.addOff, Ax.sizeN, Ax.mkV, Ax.okV, reduceIte, Nat.reduceEqDiff, Nat.reduceAdd, Nat.reduceLeDiff, Nat.reduceLT, Nat.reduceSub, Nat.reduceMul, reduceCtorEq, Int.reduceEq, Int.reduceLT, Int.reduceLE, Int.reduceAdd, Int.reduceSub, Int.reduceNeg, Int.reduceToNat, undef, Value.cells, axL, f1, f3]; rfl) rfl ?_
        | (with_reducible first | refine end_reg (Ev.mono _ _) ?_ | refine end_dreg (Ev.mono _ _) ?_ | refine end_cond (Ev.mono _ _) ?_ | refine end_block (Ev.mono _ _) ?_ | refine end_loop (Ev.mono _ _) ?_))
    have H3 := H2.newc [.int .u64 od.kind, .int .i64 od.lock, .int .i64 od.task, .int .i64 od.socket]
    generalize S2.nx = ob at H3
    generalize S2.new (.cells false [.int .u64 od.kind, .int .i64 od.lock, .int .i64 od.task, .int .i64 od.socket]) = S3 at H3
    have hb := H3.pget
    refine cond_d rfl (fun hev => ?_) (fun hev => ?_)
    · obtain ⟨a1, ha1⟩ := min_ex od.task 30
      obtain ⟨t, ht⟩ := max_ex 0 a1
      obtain ⟨s, hs, hs5⟩ : ∃ s a2, (minV (.int .i64 od.socket) (.int .i64 5) = some (.int .i64 a2) ∧ maxV (.int .i64 0) (.int .i64 a2) = some (.int .i64 s)) ∧ 0 ≤ s ∧ s ≤ 5 := by
        refine ⟨if (0 : Int) < (if (5 : Int) < od.socket then 5 else od.socket) then (if (5 : Int) < od.socket then 5 else od.socket) else 0, _, ⟨rfl, rfl⟩, ?_⟩
        split <;> split <;> omega
      obtain ⟨⟨ha2, hs⟩, hs5⟩ := hs5
      repeat' (first
          | (with_reducible first | refine go_assoc ?_ (Ev.mono _ _) | refine go_skip ?_ | refine go_fin ?_ | refine go_ret ?_ | refine go_ret0 ?_ | refine go_exit ?_ | refine go_exit0 ?_ | refine go_block ?_ | refine n_then ?_ | refine x_then ?_ | refine r_then ?_ | refine n_block ?_ | refine r_block ?_ | refine x_block ?_ | refine x_block_ne ?_ (by decide))
          | (with_reducible refine is_k ?_; refine go_k _ (by simp only [Ax.runK, Ax.runOps, Ax.run1, Ax.wantA, Ax.step, Ax.ev, Ax.evs, Ax.evo, Ax.evp, Ax.look, Ax.putE, Ax.keepE, Ax.argsE, Ax.extr, Ax.binV, Ax.intBin, Ax.unV, Ax.addOff, Ax.sizeN, Ax.mkV, Ax.okV, reduceIte, Nat.reduceEqDiff, Nat.reduceAdd, Nat.reduceLeDiff, Nat.reduceLT, Nat.reduceSub, Nat.reduceMul, reduceCtorEq, Int.reduceEq, Int.reduceLT, Int.reduceLE, Int.reduceAdd, Int.reduceSub, Int.reduceNeg, Int.reduceToNat, undef, Value.cells, axL, get1 hb, ha1, ht, ha2, hs]; rfl) rfl ?_)
          | (with_reducible refine cond_t ?_ ?_; · simp only [Ax.ev, Ax.look, reduceIte, Nat.reduceEqDiff])
          | (with_reducible refine cond_f ?_ ?_; · simp only [Ax.ev, Ax.look, reduceIte, Nat.reduceEqDiff])
          | (with_reducible refine is_rp ?_; first | refine r_postR rfl ?_ | refine r_postR (by simp only [Ax.result, Ax.resVs, Ax.resV, R3, Ax.look, sizeN, mkV, Nat.reduceEqDiff, reduceIte, axL, get1 hb, ha1, ht, ha2, hs]; rfl) ?_)
          | (with_reducible refine is_np ?_; first | refine n_postR rfl ?_ | refine n_postR (by simp only [Ax.result, Ax.resVs, Ax.resV, R3, Ax.look, sizeN, mkV, Nat.reduceEqDiff, reduceIte, axL, get1 hb, ha1, ht, ha2, hs]; rfl) ?_)
          | (first | with_reducible refine is_wd ?_ | with_reducible refine dk_wd ?_); refine go_dt _ (by simp only [Ax.runDK, Ax.runDT, Ax.runDops, Ax.run1d, Ax.recs, Ax.okPair, Ax.idsE, Ax.idsV, AOp.mems, AOp.isWrite, DRec.none, axD, Ax.runK, Ax.runOps, Ax.run1, Ax.wantA, Ax.step, Ax.ev, Ax.evs, Ax.evo, Ax.evp, Ax.look, Ax.putE, Ax.keepE, Ax.argsE, Ax.extr, Ax.binV, Ax.intBin, Ax.unV, Ax.addOff, Ax.sizeN, Ax.mkV, Ax.okV, reduceIte, Nat.reduceEqDiff, Nat.reduceAdd, Nat.reduceLeDiff, Nat.reduceLT, Nat.reduceSub, Nat.reduceMul, reduceCtorEq, Int.reduceEq, Int.reduceLT, Int.reduceLE, Int.reduceAdd, Int.reduceSub, Int.reduceNeg, Int.reduceToNat, undef, Value.cells, axL, get1 hb, ha1, ht, ha2, hs]; rfl) rfl ?_
          | (with_reducible first | refine end_reg (Ev.mono _ _) ?_ | refine end_dreg (Ev.mono _ _) ?_ | refine end_cond (Ev.mono _ _) ?_ | refine end_block (Ev.mono _ _) ?_ | refine end_loop (Ev.mono _ _) ?_))
      repeat' (with_reducible first | refine go_assoc ?_ (Ev.mono _ _) | refine go_skip ?_ | refine go_block ?_ | refine end_reg (Ev.mono _ _) ?_)
      refine go_callC _ (by simp only [Ax.runC, AOp.isCall, Ax.runK, Ax.runOps, Ax.run1, Ax.wantA, Ax.step, Ax.ev, Ax.evs, Ax.evo, Ax.evp, Ax.look, Ax.putE, Ax.keepE, Ax.argsE, Ax.extr, Ax.binV, Ax.intBin, Ax.unV, Ax.addOff, Ax.sizeN, Ax.mkV, Ax.okV, reduceIte, Nat.reduceEqDiff, Nat.reduceAdd, Nat.reduceLeDiff, Nat.reduceLT, Nat.reduceSub, Nat.reduceMul, reduceCtorEq, Int.reduceEq, Int.reduceLT, Int.reduceLE, Int.reduceAdd, Int.reduceSub, Int.reduceNeg, Int.reduceToNat, undef, Value.cells, axL]; rfl) rfl rfl (by simp only [Ax.wantA, Ax.look, reduceIte, Nat.reduceEqDiff, bq_t, bq_f, Bool.not_true, Bool.not_false]; try rfl) rfl (by simp only [Ax.runK, Ax.runOps, Ax.run1, Ax.wantA, Ax.step, Ax.ev, Ax.evs, Ax.evo, Ax.evp, Ax.look, Ax.putE, Ax.keepE, Ax.argsE, Ax.extr, Ax.binV, Ax.intBin, Ax.unV, Ax.addOff, Ax.sizeN, Ax.mkV, Ax.okV, reduceIte, Nat.reduceEqDiff, Nat.reduceAdd, Nat.reduceLeDiff, Nat.reduceLT, Nat.reduceSub, Nat.reduceMul, reduceCtorEq, Int.reduceEq, Int.reduceLT, Int.reduceLE, Int.reduceAdd, Int.reduceSub, Int.reduceNeg, Int.reduceToNat, undef, Value.cells, axL]; try rfl) ?_
      refine take1_spec XL (H3.pick 4 [3, 1, 2] rfl) (hI.b.inv (by omega)).small t s (fun S4 H4 => ?_)
      rcases hI.b.take t s with ⟨e, he, ht⟩ | ⟨hh, hw, ht, hB'⟩ | ⟨hh, hw, _, ht, hB'⟩
      · rw [ht] at H4 ⊢
        repeat' (first
            | (with_reducible first | refine go_assoc ?_ (Ev.mono _ _) | refine go_skip ?_ | refine go_fin ?_ | refine go_ret ?_ | refine go_ret0 ?_ | refine go_exit ?_ | refine go_exit0 ?_ | refine go_block ?_ | refine n_then ?_ | refine x_then ?_ | refine r_then ?_ | refine n_block ?_ | refine r_block ?_ | refine x_block ?_ | refine x_block_ne ?_ (by decide))
            | (with_reducible refine is_k ?_; refine go_k _ (by simp only [Ax.runK, Ax.runOps, Ax.run1, Ax.wantA, Ax.step, Ax.ev, Ax.evs, Ax.evo, Ax.evp, Ax.look, Ax.putE, Ax.keepE, Ax.argsE, Ax.extr, Ax.binV, Ax.intBin, Ax.unV, Ax.addOff, Ax.sizeN, Ax.mkV, Ax.okV, reduceIte, Nat.reduceEqDiff, Nat.reduceAdd, Nat.reduceLeDiff, Nat.reduceLT, Nat.reduceSub, Nat.reduceMul, reduceCtorEq, Int.reduceEq, Int.reduceLT, Int.reduceLE, Int.reduceAdd, Int.reduceSub, Int.reduceNeg, Int.reduceToNat, undef, Value.cells, axL, wk, he]; rfl) rfl ?_)
            | (with_reducible refine cond_t ?_ ?_; · simp only [Ax.ev, Ax.look, reduceIte, Nat.reduceEqDiff])
            | (with_reducible refine cond_f ?_ ?_; · simp only [Ax.ev, Ax.look, reduceIte, Nat.reduceEqDiff])
            | (with_reducible refine is_rp ?_; first | refine r_postR rfl ?_ | refine r_postR (by simp only [Ax.result, Ax.resVs, Ax.resV, R3, Ax.look, sizeN, mkV, Nat.reduceEqDiff, reduceIte, axL, wk, he]; rfl) ?_)
            | (with_reducible refine is_np ?_; first | refine n_postR rfl ?_ | refine n_postR (by simp only [Ax.result, Ax.resVs, Ax.resV, R3, Ax.look, sizeN, mkV, Nat.reduceEqDiff, reduceIte, axL, wk, he]; rfl) ?_)
            | (first | with_reducible refine is_wd ?_ | with_reducible refine dk_wd ?_); refine go_dt _ (by simp only [Ax.runDK, Ax.runDT, Ax.runDops, Ax.run1d, Ax.recs, Ax.okPair, Ax.idsE, Ax.idsV, AOp.mems, AOp.isWrite, DRec.none, axD, Ax.runK, Ax.runOps, Ax.run1, Ax.wantA, Ax.step, Ax.ev, Ax.evs, Ax.evo, Ax.evp, Ax.look, Ax.putE, Ax.keepE, Ax.argsE, Ax.extr, Ax.binV, Ax.intBin, Ax.unV, Ax.addOff, Ax.sizeN, Ax.mkV, Ax.okV, reduceIte, Nat.reduceEqDiff, Nat.reduceAdd, Nat.reduceLeDiff, Nat.reduceLT, Nat.reduceSub, Nat.reduceMul, reduceCtorEq, Int.reduceEq, Int.reduceLT, Int.reduceLE, Int.reduceAdd, Int.reduceSub, Int.reduceNeg, Int.reduceToNat, undef, Value.cells, axL, wk, he]; rfl) rfl ?_
            | (with_reducible first | refine end_reg (Ev.mono _ _) ?_ | refine end_dreg (Ev.mono _ _) ?_ | refine end_cond (Ev.mono _ _) ?_ | refine end_block (Ev.mono _ _) ?_ | refine end_loop (Ev.mono _ _) ?_))
        exact ⟨(k + 1, m, o, f, W, Lf, wv, lv), by simp; omega, ⟨by simp; omega, hI.more, rfl, H4.pick 3 [1, 2, 0] rfl⟩⟩
      · rw [ht] at H4 hB' ⊢
        have ho := hI.b.free hh
        obtain ⟨hW0, hL0⟩ := hI.empty ho
        repeat' (first
            | (with_reducible first | refine go_assoc ?_ (Ev.mono _ _) | refine go_skip ?_ | refine go_fin ?_ | refine go_ret ?_ | refine go_ret0 ?_ | refine go_exit ?_ | refine go_exit0 ?_ | refine go_block ?_ | refine n_then ?_ | refine x_then ?_ | refine r_then ?_ | refine n_block ?_ | refine r_block ?_ | refine x_block ?_ | refine x_block_ne ?_ (by decide))
            | (with_reducible refine is_k ?_; refine go_k _ (by simp only [Ax.runK, Ax.runOps, Ax.run1, Ax.wantA, Ax.step, Ax.ev, Ax.evs, Ax.evo, Ax.evp, Ax.look, Ax.putE, Ax.keepE, Ax.argsE, Ax.extr, Ax.binV, Ax.intBin, Ax.unV, Ax.addOff, Ax.sizeN, Ax.mkV, Ax.okV, reduceIte, Nat.reduceEqDiff, Nat.reduceAdd, Nat.reduceLeDiff, Nat.reduceLT, Nat.reduceSub, Nat.reduceMul, reduceCtorEq, Int.reduceEq, Int.reduceLT, Int.reduceLE, Int.reduceAdd, Int.reduceSub, Int.reduceNeg, Int.reduceToNat, undef, Value.cells, axL, wk]; rfl) rfl ?_)
            | (with_reducible refine cond_t ?_ ?_; · simp only [Ax.ev, Ax.look, reduceIte, Nat.reduceEqDiff])
            | (with_reducible refine cond_f ?_ ?_; · simp only [Ax.ev, Ax.look, reduceIte, Nat.reduceEqDiff])
            | (with_reducible refine is_rp ?_; first | refine r_postR rfl ?_ | refine r_postR (by simp only [Ax.result, Ax.resVs, Ax.resV, R3, Ax.look, sizeN, mkV, Nat.reduceEqDiff, reduceIte, axL, wk]; rfl) ?_)
            | (with_reducible refine is_np ?_; first | refine n_postR rfl ?_ | refine n_postR (by simp only [Ax.result, Ax.resVs, Ax.resV, R3, Ax.look, sizeN, mkV, Nat.reduceEqDiff, reduceIte, axL, wk]; rfl) ?_)
            | (first | with_reducible refine is_wd ?_ | with_reducible refine dk_wd ?_); refine go_dt _ (by simp only [Ax.runDK, Ax.runDT, Ax.runDops, Ax.run1d, Ax.recs, Ax.okPair, Ax.idsE, Ax.idsV, AOp.mems, AOp.isWrite, DRec.none, axD, Ax.runK, Ax.runOps, Ax.run1, Ax.wantA, Ax.step, Ax.ev, Ax.evs, Ax.evo, Ax.evp, Ax.look, Ax.putE, Ax.keepE, Ax.argsE, Ax.extr, Ax.binV, Ax.intBin, Ax.unV, Ax.addOff, Ax.sizeN, Ax.mkV, Ax.okV, reduceIte, Nat.reduceEqDiff, Nat.reduceAdd, Nat.reduceLeDiff, Nat.reduceLT, Nat.reduceSub, Nat.reduceMul, reduceCtorEq, Int.reduceEq, Int.reduceLT, Int.reduceLE, Int.reduceAdd, Int.reduceSub, Int.reduceNeg, Int.reduceToNat, undef, Value.cells, axL, wk]; rfl) rfl ?_
            | (with_reducible first | refine end_reg (Ev.mono _ _) ?_ | refine end_dreg (Ev.mono _ _) ?_ | refine end_cond (Ev.mono _ _) ?_ | refine end_block (Ev.mono _ _) ?_ | refine end_loop (Ev.mono _ _) ?_))
        refine ⟨(k + 1, { m with held := true, owner := t, socket := s, passes := 0 }, o, f, W, Lf, wv, lv), by simp; omega, ⟨by simp; omega, ⟨hB', hI.fw, hI.nd, hI.rng, ?_, hI.top, by simp; omega⟩, rfl, H4.pick 3 [1, 2, 0] rfl⟩⟩
        rw [hW0, hL0]; trivial
      · rw [ht] at H4 hB' ⊢
        have hwvl := SlT.len (H4.pick 3 [1] rfl)
        repeat' (first
            | (with_reducible first | refine go_assoc ?_ (Ev.mono _ _) | refine go_skip ?_ | refine go_fin ?_ | refine go_ret ?_ | refine go_ret0 ?_ | refine go_exit ?_ | refine go_exit0 ?_ | refine go_block ?_ | refine n_then ?_ | refine x_then ?_ | refine r_then ?_ | refine n_block ?_ | refine r_block ?_ | refine x_block ?_ | refine x_block_ne ?_ (by decide))
            | (with_reducible refine is_k ?_; refine go_k _ (by simp only [Ax.runK, Ax.runOps, Ax.run1, Ax.wantA, Ax.step, Ax.ev, Ax.evs, Ax.evo, Ax.evp, Ax.look, Ax.putE, Ax.keepE, Ax.argsE, Ax.extr, Ax.binV, Ax.intBin, Ax.unV, Ax.addOff, Ax.sizeN, Ax.mkV, Ax.okV, reduceIte, Nat.reduceEqDiff, Nat.reduceAdd, Nat.reduceLeDiff, Nat.reduceLT, Nat.reduceSub, Nat.reduceMul, reduceCtorEq, Int.reduceEq, Int.reduceLT, Int.reduceLE, Int.reduceAdd, Int.reduceSub, Int.reduceNeg, Int.reduceToNat, undef, Value.cells, axL, hwvl]; rfl) rfl ?_)
            | (with_reducible refine cond_t ?_ ?_; · simp only [Ax.ev, Ax.look, reduceIte, Nat.reduceEqDiff])
            | (with_reducible refine cond_f ?_ ?_; · simp only [Ax.ev, Ax.look, reduceIte, Nat.reduceEqDiff])
            | (with_reducible refine is_rp ?_; first | refine r_postR rfl ?_ | refine r_postR (by simp only [Ax.result, Ax.resVs, Ax.resV, R3, Ax.look, sizeN, mkV, Nat.reduceEqDiff, reduceIte, axL, hwvl]; rfl) ?_)
            | (with_reducible refine is_np ?_; first | refine n_postR rfl ?_ | refine n_postR (by simp only [Ax.result, Ax.resVs, Ax.resV, R3, Ax.look, sizeN, mkV, Nat.reduceEqDiff, reduceIte, axL, hwvl]; rfl) ?_)
            | (first | with_reducible refine is_wd ?_ | with_reducible refine dk_wd ?_); refine go_dt _ (by simp only [Ax.runDK, Ax.runDT, Ax.runDops, Ax.run1d, Ax.recs, Ax.okPair, Ax.idsE, Ax.idsV, AOp.mems, AOp.isWrite, DRec.none, axD, Ax.runK, Ax.runOps, Ax.run1, Ax.wantA, Ax.step, Ax.ev, Ax.evs, Ax.evo, Ax.evp, Ax.look, Ax.putE, Ax.keepE, Ax.argsE, Ax.extr, Ax.binV, Ax.intBin, Ax.unV, Ax.addOff, Ax.sizeN, Ax.mkV, Ax.okV, reduceIte, Nat.reduceEqDiff, Nat.reduceAdd, Nat.reduceLeDiff, Nat.reduceLT, Nat.reduceSub, Nat.reduceMul, reduceCtorEq, Int.reduceEq, Int.reduceLT, Int.reduceLE, Int.reduceAdd, Int.reduceSub, Int.reduceNeg, Int.reduceToNat, undef, Value.cells, axL, hwvl]; rfl) rfl ?_
            | (with_reducible first | refine end_reg (Ev.mono _ _) ?_ | refine end_dreg (Ev.mono _ _) ?_ | refine end_cond (Ev.mono _ _) ?_ | refine end_block (Ev.mono _ _) ?_ | refine end_loop (Ev.mono _ _) ?_))
        have H5 := H4.pick 3 [1, 2, 0] rfl
        clear H4 H3
        refine go_loop (Ev.mono _ _) (fun (j : Nat) ρ S' => j ≤ W.length ∧ ρ = [(64, .int .i64 j), (12, .int .i64 (((W.take j).filter fun w => decide (w.2 = s)).length : Nat)), (9, .int .i64 s), (62, wv), (3, .pointer (some ⟨L, 0, none⟩)), (31, v'), (32, .int .i64 l.length), (33, .int .i64 k), (5, lv), (8, .int .i64 t), (4, wv), (63, .int .i64 W.length)] ∧ St R (SlT wv W :: SlT lv Lf :: LocksA L [{ m with rows := addRow m.rows s t }] :: F) S') (fun j => W.length - j) 0 ⟨Nat.zero_le _, rfl, H5⟩ ?_
        clear H5
        rintro j ρ S5 ⟨hj, rfl, H5⟩
        have wj : IntKind.wrap .i64 ((j : Int) + 1) = ((j + 1 : Nat) : Int) := wrapI (n := (j : Int) + 1) (by unfold I64; omega)
        repeat' (first
            | (with_reducible first | refine go_assoc ?_ (Ev.mono _ _) | refine go_skip ?_ | refine go_fin ?_ | refine go_ret ?_ | refine go_ret0 ?_ | refine go_exit ?_ | refine go_exit0 ?_ | refine go_block ?_ | refine n_then ?_ | refine x_then ?_ | refine r_then ?_ | refine n_block ?_ | refine r_block ?_ | refine x_block ?_ | refine x_block_ne ?_ (by decide))
            | (with_reducible refine is_k ?_; refine go_k _ (by simp only [Ax.runK, Ax.runOps, Ax.run1, Ax.wantA, Ax.step, Ax.ev, Ax.evs, Ax.evo, Ax.evp, Ax.look, Ax.putE, Ax.keepE, Ax.argsE, Ax.extr, Ax.binV, Ax.intBin, Ax.unV, Ax.addOff, Ax.sizeN, Ax.mkV, Ax.okV, reduceIte, Nat.reduceEqDiff, Nat.reduceAdd, Nat.reduceLeDiff, Nat.reduceLT, Nat.reduceSub, Nat.reduceMul, reduceCtorEq, Int.reduceEq, Int.reduceLT, Int.reduceLE, Int.reduceAdd, Int.reduceSub, Int.reduceNeg, Int.reduceToNat, undef, Value.cells, axL]; rfl) rfl ?_)
            | (with_reducible refine cond_t ?_ ?_; · simp only [Ax.ev, Ax.look, reduceIte, Nat.reduceEqDiff])
            | (with_reducible refine cond_f ?_ ?_; · simp only [Ax.ev, Ax.look, reduceIte, Nat.reduceEqDiff])
            | (with_reducible refine is_rp ?_; first | refine r_postR rfl ?_ | refine r_postR (by simp only [Ax.result, Ax.resVs, Ax.resV, R3, Ax.look, sizeN, mkV, Nat.reduceEqDiff, reduceIte, axL]; rfl) ?_)
            | (with_reducible refine is_np ?_; first | refine n_postR rfl ?_ | refine n_postR (by simp only [Ax.result, Ax.resVs, Ax.resV, R3, Ax.look, sizeN, mkV, Nat.reduceEqDiff, reduceIte, axL]; rfl) ?_)
            | (first | with_reducible refine is_wd ?_ | with_reducible refine dk_wd ?_); refine go_dt _ (by simp only [Ax.runDK, Ax.runDT, Ax.runDops, Ax.run1d, Ax.recs, Ax.okPair, Ax.idsE, Ax.idsV, AOp.mems, AOp.isWrite, DRec.none, axD, Ax.runK, Ax.runOps, Ax.run1, Ax.wantA, Ax.step, Ax.ev, Ax.evs, Ax.evo, Ax.evp, Ax.look, Ax.putE, Ax.keepE, Ax.argsE, Ax.extr, Ax.binV, Ax.intBin, Ax.unV, Ax.addOff, Ax.sizeN, Ax.mkV, Ax.okV, reduceIte, Nat.reduceEqDiff, Nat.reduceAdd, Nat.reduceLeDiff, Nat.reduceLT, Nat.reduceSub, Nat.reduceMul, reduceCtorEq, Int.reduceEq, Int.reduceLT, Int.reduceLE, Int.reduceAdd, Int.reduceSub, Int.reduceNeg, Int.reduceToNat, undef, Value.cells, axL]; rfl) rfl ?_
            | (with_reducible first | refine end_reg (Ev.mono _ _) ?_ | refine end_dreg (Ev.mono _ _) ?_ | refine end_cond (Ev.mono _ _) ?_ | refine end_block (Ev.mono _ _) ?_ | refine end_loop (Ev.mono _ _) ?_))
        refine cond_d rfl (fun hlt => ?_) (fun hlt => ?_)
        · have hjl : j < W.length := by omega
          obtain ⟨b, a, f1, f2, f3, f4⟩ := RdT.at (SlT.read H5) hjl .i64
          rw [enc_pair] at f3
          have hfl := List.length_filter_le (fun w : Int × Int => decide (w.2 = s)) (W.take j)
          rw [List.length_take] at hfl
          obtain ⟨c, hc⟩ : ∃ c : Nat, c = ((W.take j).filter fun w => decide (w.2 = s)).length := ⟨_, rfl⟩
          have hsn : ((W.take (j + 1)).filter fun w => decide (w.2 = s)).length = c + if W[j].2 = s then 1 else 0 := by
            rw [List.take_succ_eq_append_getElem hjl, List.filter_append, List.length_append, ← hc]
            by_cases e : W[j].2 = s <;> simp [e]
          rw [← hc] at hfl ⊢
          have wc : IntKind.wrap .i64 ((c : Int) + 1) = ((c + 1 : Nat) : Int) := wrapI (n := (c : Int) + 1) (by unfold I64; omega)
          have H6 := H5.newc [.int .i64 W[j].1, .int .i64 W[j].2]
          by_cases e : W[j].2 = s
          · rw [if_pos e] at hsn
            repeat' (first
                | (with_reducible first | refine go_assoc ?_ (Ev.mono _ _) | refine go_skip ?_ | refine go_fin ?_ | refine go_ret ?_ | refine go_ret0 ?_ | refine go_exit ?_ | refine go_exit0 ?_ | refine go_block ?_ | refine n_then ?_ | refine x_then ?_ | refine r_then ?_ | refine n_block ?_ | refine r_block ?_ | refine x_block ?_ | refine x_block_ne ?_ (by decide))
                | (with_reducible refine is_k ?_; refine go_k _ (by simp only [Ax.runK, Ax.runOps, Ax.run1, Ax.wantA, Ax.step, Ax.ev, Ax.evs, Ax.evo, Ax.evp, Ax.look, Ax.putE, Ax.keepE, Ax.argsE, Ax.extr, Ax.binV, Ax.intBin, Ax.unV, Ax.addOff, Ax.sizeN, Ax.mkV, Ax.okV, reduceIte, Nat.reduceEqDiff, Nat.reduceAdd, Nat.reduceLeDiff, Nat.reduceLT, Nat.reduceSub, Nat.reduceMul, reduceCtorEq, Int.reduceEq, Int.reduceLT, Int.reduceLE, Int.reduceAdd, Int.reduceSub, Int.reduceNeg, Int.reduceToNat, undef, Value.cells, axL, f1, f3, wj, e, wc]; rfl) rfl ?_)
                | (with_reducible refine cond_t ?_ ?_; · simp only [Ax.ev, Ax.look, reduceIte, Nat.reduceEqDiff])
                | (with_reducible refine cond_f ?_ ?_; · simp only [Ax.ev, Ax.look, reduceIte, Nat.reduceEqDiff])
                | (with_reducible refine is_rp ?_; first | refine r_postR rfl ?_ | refine r_postR (by simp only [Ax.result, Ax.resVs, Ax.resV, R3, Ax.look, sizeN, mkV, Nat.reduceEqDiff, reduceIte, axL, f1, f3, wj, e, wc]; rfl) ?_)
                | (with_reducible refine is_np ?_; first | refine n_postR rfl ?_ | refine n_postR (by simp only [Ax.result, Ax.resVs, Ax.resV, R3, Ax.look, sizeN, mkV, Nat.reduceEqDiff, reduceIte, axL, f1, f3, wj, e, wc]; rfl) ?_)
                | (first | with_reducible refine is_wd ?_ | with_reducible refine dk_wd ?_); refine go_dt _ (by simp only [Ax.runDK, Ax.runDT, Ax.runDops, Ax.run1d, Ax.recs, Ax.okPair, Ax.idsE, Ax.idsV, AOp.mems, AOp.isWrite, DRec.none, axD, Ax.runK, Ax.runOps, Ax.run1, Ax.wantA, Ax.step, Ax.ev, Ax.evs, Ax.evo, Ax.evp, Ax.look, Ax.putE, Ax.keepE, Ax.argsE, Ax.extr, Ax.binV, Ax.intBin, Ax.unV, Ax.addOff, Ax.sizeN, Ax.mkV, Ax.okV, reduceIte, Nat.reduceEqDiff, Nat.reduceAdd, Nat.reduceLeDiff, Nat.reduceLT, Nat.reduceSub, Nat.reduceMul, reduceCtorEq, Int.reduceEq, Int.reduceLT, Int.reduceLE, Int.reduceAdd, Int.reduceSub, Int.reduceNeg, Int.reduceToNat, undef, Value.cells, axL, f1, f3, wj, e, wc]; rfl) rfl ?_
                | (with_reducible first | refine end_reg (Ev.mono _ _) ?_ | refine end_dreg (Ev.mono _ _) ?_ | refine end_cond (Ev.mono _ _) ?_ | refine end_block (Ev.mono _ _) ?_ | refine end_loop (Ev.mono _ _) ?_))
            refine ⟨j + 1, by omega, hjl, ?_, (H5.newc [.int .i64 W[j].1, .int .i64 s]).tail⟩
            rw [hsn]
          · rw [if_neg e] at hsn
            repeat' (first
                | (with_reducible first | refine go_assoc ?_ (Ev.mono _ _) | refine go_skip ?_ | refine go_fin ?_ | refine go_ret ?_ | refine go_ret0 ?_ | refine go_exit ?_ | refine go_exit0 ?_ | refine go_block ?_ | refine n_then ?_ | refine x_then ?_ | refine r_then ?_ | refine n_block ?_ | refine r_block ?_ | refine x_block ?_ | refine x_block_ne ?_ (by decide))
                | (with_reducible refine is_k ?_; refine go_k _ (by simp only [Ax.runK, Ax.runOps, Ax.run1, Ax.wantA, Ax.step, Ax.ev, Ax.evs, Ax.evo, Ax.evp, Ax.look, Ax.putE, Ax.keepE, Ax.argsE, Ax.extr, Ax.binV, Ax.intBin, Ax.unV, Ax.addOff, Ax.sizeN, Ax.mkV, Ax.okV, reduceIte, Nat.reduceEqDiff, Nat.reduceAdd, Nat.reduceLeDiff, Nat.reduceLT, Nat.reduceSub, Nat.reduceMul, reduceCtorEq, Int.reduceEq, Int.reduceLT, Int.reduceLE, Int.reduceAdd, Int.reduceSub, Int.reduceNeg, Int.reduceToNat, undef, Value.cells, axL, f1, f3, wj, e]; rfl) rfl ?_)
                | (with_reducible refine cond_t ?_ ?_; · simp only [Ax.ev, Ax.look, reduceIte, Nat.reduceEqDiff])
                | (with_reducible refine cond_f ?_ ?_; · simp only [Ax.ev, Ax.look, reduceIte, Nat.reduceEqDiff])
                | (with_reducible refine is_rp ?_; first | refine r_postR rfl ?_ | refine r_postR (by simp only [Ax.result, Ax.resVs, Ax.resV, R3, Ax.look, sizeN, mkV, Nat.reduceEqDiff, reduceIte, axL, f1, f3, wj, e]; rfl) ?_)
                | (with_reducible refine is_np ?_; first | refine n_postR rfl ?_ | refine n_postR (by simp only [Ax.result, Ax.resVs, Ax.resV, R3, Ax.look, sizeN, mkV, Nat.reduceEqDiff, reduceIte, axL, f1, f3, wj, e]; rfl) ?_)
                | (first | with_reducible refine is_wd ?_ | with_reducible refine dk_wd ?_); refine go_dt _ (by simp only [Ax.runDK, Ax.runDT, Ax.runDops, Ax.run1d, Ax.recs, Ax.okPair, Ax.idsE, Ax.idsV, AOp.mems, AOp.isWrite, DRec.none, axD, Ax.runK, Ax.runOps, Ax.run1, Ax.wantA, Ax.step, Ax.ev, Ax.evs, Ax.evo, Ax.evp, Ax.look, Ax.putE, Ax.keepE, Ax.argsE, Ax.extr, Ax.binV, Ax.intBin, Ax.unV, Ax.addOff, Ax.sizeN, Ax.mkV, Ax.okV, reduceIte, Nat.reduceEqDiff, Nat.reduceAdd, Nat.reduceLeDiff, Nat.reduceLT, Nat.reduceSub, Nat.reduceMul, reduceCtorEq, Int.reduceEq, Int.reduceLT, Int.reduceLE, Int.reduceAdd, Int.reduceSub, Int.reduceNeg, Int.reduceToNat, undef, Value.cells, axL, f1, f3, wj, e]; rfl) rfl ?_
                | (with_reducible first | refine end_reg (Ev.mono _ _) ?_ | refine end_dreg (Ev.mono _ _) ?_ | refine end_cond (Ev.mono _ _) ?_ | refine end_block (Ev.mono _ _) ?_ | refine end_loop (Ev.mono _ _) ?_))
            refine ⟨j + 1, by omega, hjl, ?_, H6.tail⟩
            rw [hsn]; rfl
        · have hjn : j = W.length := by omega
          subst hjn
          rw [List.take_of_length_le (Nat.le_refl _)]
          have hfl := List.length_filter_le (fun w : Int × Int => decide (w.2 = s)) W
          have hI' := hI.add (by omega) hw hs5 hB' rfl
          generalize hcn : (W.filter fun w => decide (w.2 = s)).length = c at hfl hI' ⊢
          have wc1 : IntKind.wrap .i64 ((c : Int) + 1) = (c : Int) + 1 := wrapI (by unfold I64; omega)
          have wc2 : IntKind.wrap .i64 (((c : Int) + 1) * 6) = ((c : Int) + 1) * 6 := wrapI (by unfold I64; omega)
          have wc3 : IntKind.wrap .i64 (((c : Int) + 1) * 6 * 4) = ((c : Int) + 1) * 6 * 4 := wrapI (by unfold I64; omega)
          have H6 := (H5.newc [.int .i64 t, .int .i64 s]).pick 4 [1, 2, 3, 0] rfl
          obtain ⟨wa, wc, rfl⟩ := SlT.shape H6
          obtain ⟨wv2, S7, g1, H7⟩ := SlT.append H6 (bytes := 16) (m := [(t, s)]) (x := .slice (some ⟨S5.nx, 0, none⟩) 1 1) (src_new rfl) rfl (by simp; omega)
          have H8 := ((H7.pick 3 [0, 1, 2] rfl).newc [.int .i64 (((c : Int) + 1) * 6 * 4)]).pick 4 [2, 1, 3, 0] rfl
          obtain ⟨la, lc, rfl⟩ := SlT.shape H8
          obtain ⟨lv2, S9, g2, H9⟩ := SlT.append H8 (bytes := 8) (m := [((c : Int) + 1) * 6 * 4]) (x := .slice (some ⟨S7.nx, 0, none⟩) 1 1) (src_new rfl) rfl (by simp; omega)
          repeat' (first
              | (with_reducible first | refine go_assoc ?_ (Ev.mono _ _) | refine go_skip ?_ | refine go_fin ?_ | refine go_ret ?_ | refine go_ret0 ?_ | refine go_exit ?_ | refine go_exit0 ?_ | refine go_block ?_ | refine n_then ?_ | refine x_then ?_ | refine r_then ?_ | refine n_block ?_ | refine r_block ?_ | refine x_block ?_ | refine x_block_ne ?_ (by decide))
              | (with_reducible refine is_k ?_; refine go_k _ (by simp only [Ax.runK, Ax.runOps, Ax.run1, Ax.wantA, Ax.step, Ax.ev, Ax.evs, Ax.evo, Ax.evp, Ax.look, Ax.putE, Ax.keepE, Ax.argsE, Ax.extr, Ax.binV, Ax.intBin, Ax.unV, Ax.addOff, Ax.sizeN, Ax.mkV, Ax.okV, reduceIte, Nat.reduceEqDiff, Nat.reduceAdd, Nat.reduceLeDiff, Nat.reduceLT, Nat.reduceSub, Nat.reduceMul, reduceCtorEq, Int.reduceEq, Int.reduceLT, Int.reduceLE, Int.reduceAdd, Int.reduceSub, Int.reduceNeg, Int.reduceToNat, undef, Value.cells, axL, g1, g2, wc1, wc2, wc3, wk]; rfl) rfl ?_)
              | (with_reducible refine cond_t ?_ ?_; · simp only [Ax.ev, Ax.look, reduceIte, Nat.reduceEqDiff])
              | (with_reducible refine cond_f ?_ ?_; · simp only [Ax.ev, Ax.look, reduceIte, Nat.reduceEqDiff])
              | (with_reducible refine is_rp ?_; first | refine r_postR rfl ?_ | refine r_postR (by simp only [Ax.result, Ax.resVs, Ax.resV, R3, Ax.look, sizeN, mkV, Nat.reduceEqDiff, reduceIte, axL, g1, g2, wc1, wc2, wc3, wk]; rfl) ?_)
              | (with_reducible refine is_np ?_; first | refine n_postR rfl ?_ | refine n_postR (by simp only [Ax.result, Ax.resVs, Ax.resV, R3, Ax.look, sizeN, mkV, Nat.reduceEqDiff, reduceIte, axL, g1, g2, wc1, wc2, wc3, wk]; rfl) ?_)
              | (first | with_reducible refine is_wd ?_ | with_reducible refine dk_wd ?_); refine go_dt _ (by simp only [Ax.runDK, Ax.runDT, Ax.runDops, Ax.run1d, Ax.recs, Ax.okPair, Ax.idsE, Ax.idsV, AOp.mems, AOp.isWrite, DRec.none, axD, Ax.runK, Ax.runOps, Ax.run1, Ax.wantA, Ax.step, Ax.ev, Ax.evs, Ax.evo, Ax.evp, Ax.look, Ax.putE, Ax.keepE, Ax.argsE, Ax.extr, Ax.binV, Ax.intBin, Ax.unV, Ax.addOff, Ax.sizeN, Ax.mkV, Ax.okV, reduceIte, Nat.reduceEqDiff, Nat.reduceAdd, Nat.reduceLeDiff, Nat.reduceLT, Nat.reduceSub, Nat.reduceMul, reduceCtorEq, Int.reduceEq, Int.reduceLT, Int.reduceLE, Int.reduceAdd, Int.reduceSub, Int.reduceNeg, Int.reduceToNat, undef, Value.cells, axL, g1, g2, wc1, wc2, wc3, wk]; rfl) rfl ?_
              | (with_reducible first | refine end_reg (Ev.mono _ _) ?_ | refine end_dreg (Ev.mono _ _) ?_ | refine end_cond (Ev.mono _ _) ?_ | refine end_block (Ev.mono _ _) ?_ | refine end_loop (Ev.mono _ _) ?_))
          exact ⟨(k + 1, { m with rows := addRow m.rows s t }, addO o s, upF f s (f s ++ [t]), W ++ [(t, s)], Lf ++ [((c : Int) + 1) * 6 * 4], wv2, lv2), by simp; omega, ⟨by simp; omega, hI', rfl, H9.pick 5 [1, 0, 2] rfl⟩⟩
    · repeat' (first
          | (with_reducible first | refine go_assoc ?_ (Ev.mono _ _) | refine go_skip ?_ | refine go_fin ?_ | refine go_ret ?_ | refine go_ret0 ?_ | refine go_exit ?_ | refine go_exit0 ?_ | refine go_block ?_ | refine n_then ?_ | refine x_then ?_ | refine r_then ?_ | refine n_block ?_ | refine r_block ?_ | refine x_block ?_ | refine x_block_ne ?_ (by decide))
          | (with_reducible refine is_k ?_; refine go_k _ (by simp only [Ax.runK, Ax.runOps, Ax.run1, Ax.wantA, Ax.step, Ax.ev, Ax.evs, Ax.evo, Ax.evp, Ax.look, Ax.putE, Ax.keepE, Ax.argsE, Ax.extr, Ax.binV, Ax.intBin, Ax.unV, Ax.addOff, Ax.sizeN, Ax.mkV, Ax.okV, reduceIte, Nat.reduceEqDiff, Nat.reduceAdd, Nat.reduceLeDiff, Nat.reduceLT, Nat.reduceSub, Nat.reduceMul, reduceCtorEq, Int.reduceEq, Int.reduceLT, Int.reduceLE, Int.reduceAdd, Int.reduceSub, Int.reduceNeg, Int.reduceToNat, undef, Value.cells, axL]; rfl) rfl ?_)
          | (with_reducible refine cond_t ?_ ?_; · simp only [Ax.ev, Ax.look, reduceIte, Nat.reduceEqDiff])
          | (with_reducible refine cond_f ?_ ?_; · simp only [Ax.ev, Ax.look, reduceIte, Nat.reduceEqDiff])
          | (with_reducible refine is_rp ?_; first | refine r_postR rfl ?_ | refine r_postR (by simp only [Ax.result, Ax.resVs, Ax.resV, R3, Ax.look, sizeN, mkV, Nat.reduceEqDiff, reduceIte, axL]; rfl) ?_)
          | (with_reducible refine is_np ?_; first | refine n_postR rfl ?_ | refine n_postR (by simp only [Ax.result, Ax.resVs, Ax.resV, R3, Ax.look, sizeN, mkV, Nat.reduceEqDiff, reduceIte, axL]; rfl) ?_)
          | (first | with_reducible refine is_wd ?_ | with_reducible refine dk_wd ?_); refine go_dt _ (by simp only [Ax.runDK, Ax.runDT, Ax.runDops, Ax.run1d, Ax.recs, Ax.okPair, Ax.idsE, Ax.idsV, AOp.mems, AOp.isWrite, DRec.none, axD, Ax.runK, Ax.runOps, Ax.run1, Ax.wantA, Ax.step, Ax.ev, Ax.evs, Ax.evo, Ax.evp, Ax.look, Ax.putE, Ax.keepE, Ax.argsE, Ax.extr, Ax.binV, Ax.intBin, Ax.unV, Ax.addOff, Ax.sizeN, Ax.mkV, Ax.okV, reduceIte, Nat.reduceEqDiff, Nat.reduceAdd, Nat.reduceLeDiff, Nat.reduceLT, Nat.reduceSub, Nat.reduceMul, reduceCtorEq, Int.reduceEq, Int.reduceLT, Int.reduceLE, Int.reduceAdd, Int.reduceSub, Int.reduceNeg, Int.reduceToNat, undef, Value.cells, axL]; rfl) rfl ?_
          | (with_reducible first | refine end_reg (Ev.mono _ _) ?_ | refine end_dreg (Ev.mono _ _) ?_ | refine end_cond (Ev.mono _ _) ?_ | refine end_block (Ev.mono _ _) ?_ | refine end_loop (Ev.mono _ _) ?_))
      repeat' (with_reducible first | refine go_assoc ?_ (Ev.mono _ _) | refine go_skip ?_ | refine go_block ?_ | refine end_reg (Ev.mono _ _) ?_)
      refine go_callC _ (by simp only [Ax.runC, AOp.isCall, Ax.runK, Ax.runOps, Ax.run1, Ax.wantA, Ax.step, Ax.ev, Ax.evs, Ax.evo, Ax.evp, Ax.look, Ax.putE, Ax.keepE, Ax.argsE, Ax.extr, Ax.binV, Ax.intBin, Ax.unV, Ax.addOff, Ax.sizeN, Ax.mkV, Ax.okV, reduceIte, Nat.reduceEqDiff, Nat.reduceAdd, Nat.reduceLeDiff, Nat.reduceLT, Nat.reduceSub, Nat.reduceMul, reduceCtorEq, Int.reduceEq, Int.reduceLT, Int.reduceLE, Int.reduceAdd, Int.reduceSub, Int.reduceNeg, Int.reduceToNat, undef, Value.cells, axL]; rfl) rfl rfl (by simp only [Ax.wantA, Ax.look, reduceIte, Nat.reduceEqDiff, bq_t, bq_f, Bool.not_true, Bool.not_false]; try rfl) rfl (by simp only [Ax.runK, Ax.runOps, Ax.run1, Ax.wantA, Ax.step, Ax.ev, Ax.evs, Ax.evo, Ax.evp, Ax.look, Ax.putE, Ax.keepE, Ax.argsE, Ax.extr, Ax.binV, Ax.intBin, Ax.unV, Ax.addOff, Ax.sizeN, Ax.mkV, Ax.okV, reduceIte, Nat.reduceEqDiff, Nat.reduceAdd, Nat.reduceLeDiff, Nat.reduceLT, Nat.reduceSub, Nat.reduceMul, reduceCtorEq, Int.reduceEq, Int.reduceLT, Int.reduceLE, Int.reduceAdd, Int.reduceSub, Int.reduceNeg, Int.reduceToNat, undef, Value.cells, axL]; try rfl) ?_
      refine owner1_spec XL (H3.pick 4 [3, 1, 2] rfl) ?_
      have H4 := H3.tail
      clear H3
      cases hh : m.held with
      | false =>
        repeat' (first
            | (with_reducible first | refine go_assoc ?_ (Ev.mono _ _) | refine go_skip ?_ | refine go_fin ?_ | refine go_ret ?_ | refine go_ret0 ?_ | refine go_exit ?_ | refine go_exit0 ?_ | refine go_block ?_ | refine n_then ?_ | refine x_then ?_ | refine r_then ?_ | refine n_block ?_ | refine r_block ?_ | refine x_block ?_ | refine x_block_ne ?_ (by decide))
            | (with_reducible refine is_k ?_; refine go_k _ (by simp only [Ax.runK, Ax.runOps, Ax.run1, Ax.wantA, Ax.step, Ax.ev, Ax.evs, Ax.evo, Ax.evp, Ax.look, Ax.putE, Ax.keepE, Ax.argsE, Ax.extr, Ax.binV, Ax.intBin, Ax.unV, Ax.addOff, Ax.sizeN, Ax.mkV, Ax.okV, reduceIte, Nat.reduceEqDiff, Nat.reduceAdd, Nat.reduceLeDiff, Nat.reduceLT, Nat.reduceSub, Nat.reduceMul, reduceCtorEq, Int.reduceEq, Int.reduceLT, Int.reduceLE, Int.reduceAdd, Int.reduceSub, Int.reduceNeg, Int.reduceToNat, undef, Value.cells, axL, hh, wk]; rfl) rfl ?_)
            | (with_reducible refine cond_t ?_ ?_; · simp only [Ax.ev, Ax.look, reduceIte, Nat.reduceEqDiff])
            | (with_reducible refine cond_f ?_ ?_; · simp only [Ax.ev, Ax.look, reduceIte, Nat.reduceEqDiff])
            | (with_reducible refine is_rp ?_; first | refine r_postR rfl ?_ | refine r_postR (by simp only [Ax.result, Ax.resVs, Ax.resV, R3, Ax.look, sizeN, mkV, Nat.reduceEqDiff, reduceIte, axL, hh, wk]; rfl) ?_)
            | (with_reducible refine is_np ?_; first | refine n_postR rfl ?_ | refine n_postR (by simp only [Ax.result, Ax.resVs, Ax.resV, R3, Ax.look, sizeN, mkV, Nat.reduceEqDiff, reduceIte, axL, hh, wk]; rfl) ?_)
            | (first | with_reducible refine is_wd ?_ | with_reducible refine dk_wd ?_); refine go_dt _ (by simp only [Ax.runDK, Ax.runDT, Ax.runDops, Ax.run1d, Ax.recs, Ax.okPair, Ax.idsE, Ax.idsV, AOp.mems, AOp.isWrite, DRec.none, axD, Ax.runK, Ax.runOps, Ax.run1, Ax.wantA, Ax.step, Ax.ev, Ax.evs, Ax.evo, Ax.evp, Ax.look, Ax.putE, Ax.keepE, Ax.argsE, Ax.extr, Ax.binV, Ax.intBin, Ax.unV, Ax.addOff, Ax.sizeN, Ax.mkV, Ax.okV, reduceIte, Nat.reduceEqDiff, Nat.reduceAdd, Nat.reduceLeDiff, Nat.reduceLT, Nat.reduceSub, Nat.reduceMul, reduceCtorEq, Int.reduceEq, Int.reduceLT, Int.reduceLE, Int.reduceAdd, Int.reduceSub, Int.reduceNeg, Int.reduceToNat, undef, Value.cells, axL, hh, wk]; rfl) rfl ?_
            | (with_reducible first | refine end_reg (Ev.mono _ _) ?_ | refine end_dreg (Ev.mono _ _) ?_ | refine end_cond (Ev.mono _ _) ?_ | refine end_block (Ev.mono _ _) ?_ | refine end_loop (Ev.mono _ _) ?_))
        exact ⟨(k + 1, m, o, f, W, Lf, wv, lv), by simp; omega, ⟨by simp; omega, hI.more, rfl, H4⟩⟩
      | true =>
        repeat' (first
            | (with_reducible first | refine go_assoc ?_ (Ev.mono _ _) | refine go_skip ?_ | refine go_fin ?_ | refine go_ret ?_ | refine go_ret0 ?_ | refine go_exit ?_ | refine go_exit0 ?_ | refine go_block ?_ | refine n_then ?_ | refine x_then ?_ | refine r_then ?_ | refine n_block ?_ | refine r_block ?_ | refine x_block ?_ | refine x_block_ne ?_ (by decide))
            | (with_reducible refine is_k ?_; refine go_k _ (by simp only [Ax.runK, Ax.runOps, Ax.run1, Ax.wantA, Ax.step, Ax.ev, Ax.evs, Ax.evo, Ax.evp, Ax.look, Ax.putE, Ax.keepE, Ax.argsE, Ax.extr, Ax.binV, Ax.intBin, Ax.unV, Ax.addOff, Ax.sizeN, Ax.mkV, Ax.okV, reduceIte, Nat.reduceEqDiff, Nat.reduceAdd, Nat.reduceLeDiff, Nat.reduceLT, Nat.reduceSub, Nat.reduceMul, reduceCtorEq, Int.reduceEq, Int.reduceLT, Int.reduceLE, Int.reduceAdd, Int.reduceSub, Int.reduceNeg, Int.reduceToNat, undef, Value.cells, axL, hh]; rfl) rfl ?_)
            | (with_reducible refine cond_t ?_ ?_; · simp only [Ax.ev, Ax.look, reduceIte, Nat.reduceEqDiff])
            | (with_reducible refine cond_f ?_ ?_; · simp only [Ax.ev, Ax.look, reduceIte, Nat.reduceEqDiff])
            | (with_reducible refine is_rp ?_; first | refine r_postR rfl ?_ | refine r_postR (by simp only [Ax.result, Ax.resVs, Ax.resV, R3, Ax.look, sizeN, mkV, Nat.reduceEqDiff, reduceIte, axL, hh]; rfl) ?_)
            | (with_reducible refine is_np ?_; first | refine n_postR rfl ?_ | refine n_postR (by simp only [Ax.result, Ax.resVs, Ax.resV, R3, Ax.look, sizeN, mkV, Nat.reduceEqDiff, reduceIte, axL, hh]; rfl) ?_)
            | (first | with_reducible refine is_wd ?_ | with_reducible refine dk_wd ?_); refine go_dt _ (by simp only [Ax.runDK, Ax.runDT, Ax.runDops, Ax.run1d, Ax.recs, Ax.okPair, Ax.idsE, Ax.idsV, AOp.mems, AOp.isWrite, DRec.none, axD, Ax.runK, Ax.runOps, Ax.run1, Ax.wantA, Ax.step, Ax.ev, Ax.evs, Ax.evo, Ax.evp, Ax.look, Ax.putE, Ax.keepE, Ax.argsE, Ax.extr, Ax.binV, Ax.intBin, Ax.unV, Ax.addOff, Ax.sizeN, Ax.mkV, Ax.okV, reduceIte, Nat.reduceEqDiff, Nat.reduceAdd, Nat.reduceLeDiff, Nat.reduceLT, Nat.reduceSub, Nat.reduceMul, reduceCtorEq, Int.reduceEq, Int.reduceLT, Int.reduceLE, Int.reduceAdd, Int.reduceSub, Int.reduceNeg, Int.reduceToNat, undef, Value.cells, axL, hh]; rfl) rfl ?_
            | (with_reducible first | refine end_reg (Ev.mono _ _) ?_ | refine end_dreg (Ev.mono _ _) ?_ | refine end_cond (Ev.mono _ _) ?_ | refine end_block (Ev.mono _ _) ?_ | refine end_loop (Ev.mono _ _) ?_))
        repeat' (with_reducible first | refine go_assoc ?_ (Ev.mono _ _) | refine go_skip ?_ | refine go_block ?_ | refine end_reg (Ev.mono _ _) ?_)
        refine go_callC _ (by simp only [Ax.runC, AOp.isCall, Ax.runK, Ax.runOps, Ax.run1, Ax.wantA, Ax.step, Ax.ev, Ax.evs, Ax.evo, Ax.evp, Ax.look, Ax.putE, Ax.keepE, Ax.argsE, Ax.extr, Ax.binV, Ax.intBin, Ax.unV, Ax.addOff, Ax.sizeN, Ax.mkV, Ax.okV, reduceIte, Nat.reduceEqDiff, Nat.reduceAdd, Nat.reduceLeDiff, Nat.reduceLT, Nat.reduceSub, Nat.reduceMul, reduceCtorEq, Int.reduceEq, Int.reduceLT, Int.reduceLE, Int.reduceAdd, Int.reduceSub, Int.reduceNeg, Int.reduceToNat, undef, Value.cells, axL]; rfl) rfl rfl (by simp only [Ax.wantA, Ax.look, reduceIte, Nat.reduceEqDiff, bq_t, bq_f, Bool.not_true, Bool.not_false]; try rfl) rfl (by simp only [Ax.runK, Ax.runOps, Ax.run1, Ax.wantA, Ax.step, Ax.ev, Ax.evs, Ax.evo, Ax.evp, Ax.look, Ax.putE, Ax.keepE, Ax.argsE, Ax.extr, Ax.binV, Ax.intBin, Ax.unV, Ax.addOff, Ax.sizeN, Ax.mkV, Ax.okV, reduceIte, Nat.reduceEqDiff, Nat.reduceAdd, Nat.reduceLeDiff, Nat.reduceLT, Nat.reduceSub, Nat.reduceMul, reduceCtorEq, Int.reduceEq, Int.reduceLT, Int.reduceLE, Int.reduceAdd, Int.reduceSub, Int.reduceNeg, Int.reduceToNat, undef, Value.cells, axL]; try rfl) ?_
        refine give1_spec XL (H4.pick 3 [2, 0, 1] rfl) (hI.b.inv (by omega)) m.owner (fun S6 H6 => ?_)
        rcases hI.b.give m.owner with ⟨h, _⟩ | ⟨_, _, ho, hg, hB'⟩ | ⟨_, _, to, t', ts, hto, hft, rows', so, ps, hg, hcase⟩
        · rcases h with h | h
          · rw [hh] at h; cases h
          · exact absurd rfl h
        · rw [hg] at H6 hB' ⊢
          obtain ⟨hW0, hL0⟩ := hI.empty ho
          repeat' (first
              | (with_reducible first | refine go_assoc ?_ (Ev.mono _ _) | refine go_skip ?_ | refine go_fin ?_ | refine go_ret ?_ | refine go_ret0 ?_ | refine go_exit ?_ | refine go_exit0 ?_ | refine go_block ?_ | refine n_then ?_ | refine x_then ?_ | refine r_then ?_ | refine n_block ?_ | refine r_block ?_ | refine x_block ?_ | refine x_block_ne ?_ (by decide))
              | (with_reducible refine is_k ?_; refine go_k _ (by simp only [Ax.runK, Ax.runOps, Ax.run1, Ax.wantA, Ax.step, Ax.ev, Ax.evs, Ax.evo, Ax.evp, Ax.look, Ax.putE, Ax.keepE, Ax.argsE, Ax.extr, Ax.binV, Ax.intBin, Ax.unV, Ax.addOff, Ax.sizeN, Ax.mkV, Ax.okV, reduceIte, Nat.reduceEqDiff, Nat.reduceAdd, Nat.reduceLeDiff, Nat.reduceLT, Nat.reduceSub, Nat.reduceMul, reduceCtorEq, Int.reduceEq, Int.reduceLT, Int.reduceLE, Int.reduceAdd, Int.reduceSub, Int.reduceNeg, Int.reduceToNat, undef, Value.cells, axL, wk]; rfl) rfl ?_)
              | (with_reducible refine cond_t ?_ ?_; · simp only [Ax.ev, Ax.look, reduceIte, Nat.reduceEqDiff])
              | (with_reducible refine cond_f ?_ ?_; · simp only [Ax.ev, Ax.look, reduceIte, Nat.reduceEqDiff])
              | (with_reducible refine is_rp ?_; first | refine r_postR rfl ?_ | refine r_postR (by simp only [Ax.result, Ax.resVs, Ax.resV, R3, Ax.look, sizeN, mkV, Nat.reduceEqDiff, reduceIte, axL, wk]; rfl) ?_)
              | (with_reducible refine is_np ?_; first | refine n_postR rfl ?_ | refine n_postR (by simp only [Ax.result, Ax.resVs, Ax.resV, R3, Ax.look, sizeN, mkV, Nat.reduceEqDiff, reduceIte, axL, wk]; rfl) ?_)
              | (first | with_reducible refine is_wd ?_ | with_reducible refine dk_wd ?_); refine go_dt _ (by simp only [Ax.runDK, Ax.runDT, Ax.runDops, Ax.run1d, Ax.recs, Ax.okPair, Ax.idsE, Ax.idsV, AOp.mems, AOp.isWrite, DRec.none, axD, Ax.runK, Ax.runOps, Ax.run1, Ax.wantA, Ax.step, Ax.ev, Ax.evs, Ax.evo, Ax.evp, Ax.look, Ax.putE, Ax.keepE, Ax.argsE, Ax.extr, Ax.binV, Ax.intBin, Ax.unV, Ax.addOff, Ax.sizeN, Ax.mkV, Ax.okV, reduceIte, Nat.reduceEqDiff, Nat.reduceAdd, Nat.reduceLeDiff, Nat.reduceLT, Nat.reduceSub, Nat.reduceMul, reduceCtorEq, Int.reduceEq, Int.reduceLT, Int.reduceLE, Int.reduceAdd, Int.reduceSub, Int.reduceNeg, Int.reduceToNat, undef, Value.cells, axL, wk]; rfl) rfl ?_
              | (with_reducible first | refine end_reg (Ev.mono _ _) ?_ | refine end_dreg (Ev.mono _ _) ?_ | refine end_cond (Ev.mono _ _) ?_ | refine end_block (Ev.mono _ _) ?_ | refine end_loop (Ev.mono _ _) ?_))
          refine ⟨(k + 1, lock0, [], fun _ => [], [], [], wv, lv), by simp; omega, ⟨by simp; omega, ⟨hB', fun _ => rfl, List.nodup_nil, fun _ h => absurd h (by simp), trivial, fun _ h => absurd h (by simp), Nat.zero_le _⟩, rfl, ?_⟩⟩
          rw [hW0, hL0] at H6
          exact H6.pick 3 [1, 2, 0] rfl
        · rw [hg] at H6 hcase ⊢
          obtain ⟨m6, hm6⟩ : ∃ m6 : LockM, m6 = ⟨m.held, t', so, ps, rows'⟩ := ⟨_, rfl⟩
          have hcase2 : ∃ o', LkB (k + 1) m6 o' (upF f to ts) ∧ ((to = m.socket ∧ m6.socket = m.socket ∧ m6.passes = m.passes + 1 ∧ (m.passes < 3 ∨ o.length = 1) ∧ o' = cutO o f to) ∨ (to ≠ m.socket ∧ m6.socket = to ∧ m6.passes = 0 ∧ ¬ (m.socket ∈ o ∧ (m.passes < 3 ∨ o.length = 1)) ∧ (∃ pre post, o = pre ++ to :: post ∧ ∀ x ∈ pre, x = m.socket) ∧ o' = endO (cutO o f to) m.socket)) := by
            rcases hcase with ⟨h1, h2, h3, h4, hB'⟩ | ⟨h1, h2, h3, h4, h5, hB'⟩
            · exact ⟨_, hm6 ▸ hB', .inl ⟨h1, by rw [hm6]; exact h2, by rw [hm6]; exact h3, h4, rfl⟩⟩
            · exact ⟨_, hm6 ▸ hB', .inr ⟨h1, by rw [hm6]; exact h2, by rw [hm6]; exact h3, h4, h5, rfl⟩⟩
          obtain ⟨o', hB6, hc6⟩ := hcase2
          obtain ⟨A, B, hW, hA, hpos, hI6⟩ := hI.tell hto hft hB6 hc6
          have H7 : St R (SlT wv W :: SlT lv Lf :: LocksA L [m6] :: F) S6 := by rw [hm6]; exact H6.pick 3 [1, 2, 0] rfl
          clear H6 hcase hc6 hg H4
          have hwvl := SlT.len H7
          repeat' (first
              | (with_reducible first | refine go_assoc ?_ (Ev.mono _ _) | refine go_skip ?_ | refine go_fin ?_ | refine go_ret ?_ | refine go_ret0 ?_ | refine go_exit ?_ | refine go_exit0 ?_ | refine go_block ?_ | refine n_then ?_ | refine x_then ?_ | refine r_then ?_ | refine n_block ?_ | refine r_block ?_ | refine x_block ?_ | refine x_block_ne ?_ (by decide))
              | (with_reducible refine is_k ?_; refine go_k _ (by simp only [Ax.runK, Ax.runOps, Ax.run1, Ax.wantA, Ax.step, Ax.ev, Ax.evs, Ax.evo, Ax.evp, Ax.look, Ax.putE, Ax.keepE, Ax.argsE, Ax.extr, Ax.binV, Ax.intBin, Ax.unV, Ax.addOff, Ax.sizeN, Ax.mkV, Ax.okV, reduceIte, Nat.reduceEqDiff, Nat.reduceAdd, Nat.reduceLeDiff, Nat.reduceLT, Nat.reduceSub, Nat.reduceMul, reduceCtorEq, Int.reduceEq, Int.reduceLT, Int.reduceLE, Int.reduceAdd, Int.reduceSub, Int.reduceNeg, Int.reduceToNat, undef, Value.cells, axL, hwvl]; rfl) rfl ?_)
              | (with_reducible refine cond_t ?_ ?_; · simp only [Ax.ev, Ax.look, reduceIte, Nat.reduceEqDiff])
              | (with_reducible refine cond_f ?_ ?_; · simp only [Ax.ev, Ax.look, reduceIte, Nat.reduceEqDiff])
              | (with_reducible refine is_rp ?_; first | refine r_postR rfl ?_ | refine r_postR (by simp only [Ax.result, Ax.resVs, Ax.resV, R3, Ax.look, sizeN, mkV, Nat.reduceEqDiff, reduceIte, axL, hwvl]; rfl) ?_)
              | (with_reducible refine is_np ?_; first | refine n_postR rfl ?_ | refine n_postR (by simp only [Ax.result, Ax.resVs, Ax.resV, R3, Ax.look, sizeN, mkV, Nat.reduceEqDiff, reduceIte, axL, hwvl]; rfl) ?_)
              | (first | with_reducible refine is_wd ?_ | with_reducible refine dk_wd ?_); refine go_dt _ (by simp only [Ax.runDK, Ax.runDT, Ax.runDops, Ax.run1d, Ax.recs, Ax.okPair, Ax.idsE, Ax.idsV, AOp.mems, AOp.isWrite, DRec.none, axD, Ax.runK, Ax.runOps, Ax.run1, Ax.wantA, Ax.step, Ax.ev, Ax.evs, Ax.evo, Ax.evp, Ax.look, Ax.putE, Ax.keepE, Ax.argsE, Ax.extr, Ax.binV, Ax.intBin, Ax.unV, Ax.addOff, Ax.sizeN, Ax.mkV, Ax.okV, reduceIte, Nat.reduceEqDiff, Nat.reduceAdd, Nat.reduceLeDiff, Nat.reduceLT, Nat.reduceSub, Nat.reduceMul, reduceCtorEq, Int.reduceEq, Int.reduceLT, Int.reduceLE, Int.reduceAdd, Int.reduceSub, Int.reduceNeg, Int.reduceToNat, undef, Value.cells, axL, hwvl]; rfl) rfl ?_
              | (with_reducible first | refine end_reg (Ev.mono _ _) ?_ | refine end_dreg (Ev.mono _ _) ?_ | refine end_cond (Ev.mono _ _) ?_ | refine end_block (Ev.mono _ _) ?_ | refine end_loop (Ev.mono _ _) ?_))
          have hAl : A.length < W.length := by rw [hW]; simp
          have hWA : W[A.length] = (t', to) := by simp [hW]
          have hat : ∀ j (hj : j < W.length), W[j].1 = t' ↔ j = A.length := fun j hj => by
            constructor
            · intro e
              have h2 : (W.map (·.1))[j]'(by simpa using hj) = (W.map (·.1))[A.length]'(by simpa using hAl) := by
                simp only [List.getElem_map, hWA, e]
              exact nodup_at hI.nd _ _ h2
            · rintro rfl; rw [hWA]
          obtain ⟨aI, haI⟩ : ∃ aI : Nat → Int, aI = fun j => if A.length < j then (A.length : Int) else -1 := ⟨_, rfl⟩
          have a0 : aI 0 = -1 := by rw [haI]; simp
          refine go_loop (Ev.mono _ _) (fun (j : Nat) ρ S' => j ≤ W.length ∧ ρ = [(106, .int .i64 j), (17, .int .i64 t'), (104, wv), (5, lv), (20, .int .i64 (aI j)), (4, wv), (3, .pointer (some ⟨L, 0, none⟩)), (31, v'), (32, .int .i64 l.length), (33, .int .i64 k), (105, .int .i64 W.length)] ∧ St R (SlT wv W :: SlT lv Lf :: LocksA L [m6] :: F) S') (fun j => W.length - j) 0 ⟨Nat.zero_le _, by rw [a0]; rfl, H7⟩ ?_
          clear H7
          rintro j ρ S7 ⟨hj, rfl, H7⟩
          have wj : IntKind.wrap .i64 ((j : Int) + 1) = ((j + 1 : Nat) : Int) := wrapI (n := (j : Int) + 1) (by unfold I64; omega)
          repeat' (first
              | (with_reducible first | refine go_assoc ?_ (Ev.mono _ _) | refine go_skip ?_ | refine go_fin ?_ | refine go_ret ?_ | refine go_ret0 ?_ | refine go_exit ?_ | refine go_exit0 ?_ | refine go_block ?_ | refine n_then ?_ | refine x_then ?_ | refine r_then ?_ | refine n_block ?_ | refine r_block ?_ | refine x_block ?_ | refine x_block_ne ?_ (by decide))
              | (with_reducible refine is_k ?_; refine go_k _ (by simp only [Ax.runK, Ax.runOps, Ax.run1, Ax.wantA, Ax.step, Ax.ev, Ax.evs, Ax.evo, Ax.evp, Ax.look, Ax.putE, Ax.keepE, Ax.argsE, Ax.extr, Ax.binV, Ax.intBin, Ax.unV, Ax.addOff, Ax.sizeN, Ax.mkV, Ax.okV, reduceIte, Nat.reduceEqDiff, Nat.reduceAdd, Nat.reduceLeDiff, Nat.reduceLT, Nat.reduceSub, Nat.reduceMul, reduceCtorEq, Int.reduceEq, Int.reduceLT, Int.reduceLE, Int.reduceAdd, Int.reduceSub, Int.reduceNeg, Int.reduceToNat, undef, Value.cells, axL]; rfl) rfl ?_)
              | (with_reducible refine cond_t ?_ ?_; · simp only [Ax.ev, Ax.look, reduceIte, Nat.reduceEqDiff])
              | (with_reducible refine cond_f ?_ ?_; · simp only [Ax.ev, Ax.look, reduceIte, Nat.reduceEqDiff])
              | (with_reducible refine is_rp ?_; first | refine r_postR rfl ?_ | refine r_postR (by simp only [Ax.result, Ax.resVs, Ax.resV, R3, Ax.look, sizeN, mkV, Nat.reduceEqDiff, reduceIte, axL]; rfl) ?_)
              | (with_reducible refine is_np ?_; first | refine n_postR rfl ?_ | refine n_postR (by simp only [Ax.result, Ax.resVs, Ax.resV, R3, Ax.look, sizeN, mkV, Nat.reduceEqDiff, reduceIte, axL]; rfl) ?_)
              | (first | with_reducible refine is_wd ?_ | with_reducible refine dk_wd ?_); refine go_dt _ (by simp only [Ax.runDK, Ax.runDT, Ax.runDops, Ax.run1d, Ax.recs, Ax.okPair, Ax.idsE, Ax.idsV, AOp.mems, AOp.isWrite, DRec.none, axD, Ax.runK, Ax.runOps, Ax.run1, Ax.wantA, Ax.step, Ax.ev, Ax.evs, Ax.evo, Ax.evp, Ax.look, Ax.putE, Ax.keepE, Ax.argsE, Ax.extr, Ax.binV, Ax.intBin, Ax.unV, Ax.addOff, Ax.sizeN, Ax.mkV, Ax.okV, reduceIte, Nat.reduceEqDiff, Nat.reduceAdd, Nat.reduceLeDiff, Nat.reduceLT, Nat.reduceSub, Nat.reduceMul, reduceCtorEq, Int.reduceEq, Int.reduceLT, Int.reduceLE, Int.reduceAdd, Int.reduceSub, Int.reduceNeg, Int.reduceToNat, undef, Value.cells, axL]; rfl) rfl ?_
              | (with_reducible first | refine end_reg (Ev.mono _ _) ?_ | refine end_dreg (Ev.mono _ _) ?_ | refine end_cond (Ev.mono _ _) ?_ | refine end_block (Ev.mono _ _) ?_ | refine end_loop (Ev.mono _ _) ?_))
          refine cond_d rfl (fun hlt => ?_) (fun hlt => ?_)
          · have hjl : j < W.length := by omega
            obtain ⟨b, a, f1, f2, f3, f4⟩ := RdT.at (SlT.read H7) hjl .i64
            rw [enc_pair] at f3
            have hatj := hat j hjl
            by_cases e : W[j].1 = t'
            · have ea : aI (j + 1) = j := by rw [haI]; simp only [hatj.1 e]; simp
              repeat' (first
                  | (with_reducible first | refine go_assoc ?_ (Ev.mono _ _) | refine go_skip ?_ | refine go_fin ?_ | refine go_ret ?_ | refine go_ret0 ?_ | refine go_exit ?_ | refine go_exit0 ?_ | refine go_block ?_ | refine n_then ?_ | refine x_then ?_ | refine r_then ?_ | refine n_block ?_ | refine r_block ?_ | refine x_block ?_ | refine x_block_ne ?_ (by decide))
                  | (with_reducible refine is_k ?_; refine go_k _ (by simp only [Ax.runK, Ax.runOps, Ax.run1, Ax.wantA, Ax.step, Ax.ev, Ax.evs, Ax.evo, Ax.evp, Ax.look, Ax.putE, Ax.keepE, Ax.argsE, Ax.extr, Ax.binV, Ax.intBin, Ax.unV, Ax.addOff, Ax.sizeN, Ax.mkV, Ax.okV, reduceIte, Nat.reduceEqDiff, Nat.reduceAdd, Nat.reduceLeDiff, Nat.reduceLT, Nat.reduceSub, Nat.reduceMul, reduceCtorEq, Int.reduceEq, Int.reduceLT, Int.reduceLE, Int.reduceAdd, Int.reduceSub, Int.reduceNeg, Int.reduceToNat, undef, Value.cells, axL, f1, f3, wj, e]; rfl) rfl ?_)
                  | (with_reducible refine cond_t ?_ ?_; · simp only [Ax.ev, Ax.look, reduceIte, Nat.reduceEqDiff])
                  | (with_reducible refine cond_f ?_ ?_; · simp only [Ax.ev, Ax.look, reduceIte, Nat.reduceEqDiff])
                  | (with_reducible refine is_rp ?_; first | refine r_postR rfl ?_ | refine r_postR (by simp only [Ax.result, Ax.resVs, Ax.resV, R3, Ax.look, sizeN, mkV, Nat.reduceEqDiff, reduceIte, axL, f1, f3, wj, e]; rfl) ?_)
                  | (with_reducible refine is_np ?_; first | refine n_postR rfl ?_ | refine n_postR (by simp only [Ax.result, Ax.resVs, Ax.resV, R3, Ax.look, sizeN, mkV, Nat.reduceEqDiff, reduceIte, axL, f1, f3, wj, e]; rfl) ?_)
                  | (first | with_reducible refine is_wd ?_ | with_reducible refine dk_wd ?_); refine go_dt _ (by simp only [Ax.runDK, Ax.runDT, Ax.runDops, Ax.run1d, Ax.recs, Ax.okPair, Ax.idsE, Ax.idsV, AOp.mems, AOp.isWrite, DRec.none, axD, Ax.runK, Ax.runOps, Ax.run1, Ax.wantA, Ax.step, Ax.ev, Ax.evs, Ax.evo, Ax.evp, Ax.look, Ax.putE, Ax.keepE, Ax.argsE, Ax.extr, Ax.binV, Ax.intBin, Ax.unV, Ax.addOff, Ax.sizeN, Ax.mkV, Ax.okV, reduceIte, Nat.reduceEqDiff, Nat.reduceAdd, Nat.reduceLeDiff, Nat.reduceLT, Nat.reduceSub, Nat.reduceMul, reduceCtorEq, Int.reduceEq, Int.reduceLT, Int.reduceLE, Int.reduceAdd, Int.reduceSub, Int.reduceNeg, Int.reduceToNat, undef, Value.cells, axL, f1, f3, wj, e]; rfl) rfl ?_
                  | (with_reducible first | refine end_reg (Ev.mono _ _) ?_ | refine end_dreg (Ev.mono _ _) ?_ | refine end_cond (Ev.mono _ _) ?_ | refine end_block (Ev.mono _ _) ?_ | refine end_loop (Ev.mono _ _) ?_))
              exact ⟨j + 1, by omega, hjl, by rw [ea], (H7.newc [.int .i64 t', .int .i64 W[j].2]).tail⟩
            · have ea : aI (j + 1) = aI j := by
                have : j ≠ A.length := fun h => e (hatj.2 h)
                rw [haI]; simp only
                by_cases h : A.length < j
                · rw [if_pos h, if_pos (by omega)]
                · rw [if_neg h, if_neg (by omega)]
              repeat' (first
                  | (with_reducible first | refine go_assoc ?_ (Ev.mono _ _) | refine go_skip ?_ | refine go_fin ?_ | refine go_ret ?_ | refine go_ret0 ?_ | refine go_exit ?_ | refine go_exit0 ?_ | refine go_block ?_ | refine n_then ?_ | refine x_then ?_ | refine r_then ?_ | refine n_block ?_ | refine r_block ?_ | refine x_block ?_ | refine x_block_ne ?_ (by decide))
                  | (with_reducible refine is_k ?_; refine go_k _ (by simp only [Ax.runK, Ax.runOps, Ax.run1, Ax.wantA, Ax.step, Ax.ev, Ax.evs, Ax.evo, Ax.evp, Ax.look, Ax.putE, Ax.keepE, Ax.argsE, Ax.extr, Ax.binV, Ax.intBin, Ax.unV, Ax.addOff, Ax.sizeN, Ax.mkV, Ax.okV, reduceIte, Nat.reduceEqDiff, Nat.reduceAdd, Nat.reduceLeDiff, Nat.reduceLT, Nat.reduceSub, Nat.reduceMul, reduceCtorEq, Int.reduceEq, Int.reduceLT, Int.reduceLE, Int.reduceAdd, Int.reduceSub, Int.reduceNeg, Int.reduceToNat, undef, Value.cells, axL, f1, f3, wj, e]; rfl) rfl ?_)
                  | (with_reducible refine cond_t ?_ ?_; · simp only [Ax.ev, Ax.look, reduceIte, Nat.reduceEqDiff])
                  | (with_reducible refine cond_f ?_ ?_; · simp only [Ax.ev, Ax.look, reduceIte, Nat.reduceEqDiff])
                  | (with_reducible refine is_rp ?_; first | refine r_postR rfl ?_ | refine r_postR (by simp only [Ax.result, Ax.resVs, Ax.resV, R3, Ax.look, sizeN, mkV, Nat.reduceEqDiff, reduceIte, axL, f1, f3, wj, e]; rfl) ?_)
                  | (with_reducible refine is_np ?_; first | refine n_postR rfl ?_ | refine n_postR (by simp only [Ax.result, Ax.resVs, Ax.resV, R3, Ax.look, sizeN, mkV, Nat.reduceEqDiff, reduceIte, axL, f1, f3, wj, e]; rfl) ?_)
                  | (first | with_reducible refine is_wd ?_ | with_reducible refine dk_wd ?_); refine go_dt _ (by simp only [Ax.runDK, Ax.runDT, Ax.runDops, Ax.run1d, Ax.recs, Ax.okPair, Ax.idsE, Ax.idsV, AOp.mems, AOp.isWrite, DRec.none, axD, Ax.runK, Ax.runOps, Ax.run1, Ax.wantA, Ax.step, Ax.ev, Ax.evs, Ax.evo, Ax.evp, Ax.look, Ax.putE, Ax.keepE, Ax.argsE, Ax.extr, Ax.binV, Ax.intBin, Ax.unV, Ax.addOff, Ax.sizeN, Ax.mkV, Ax.okV, reduceIte, Nat.reduceEqDiff, Nat.reduceAdd, Nat.reduceLeDiff, Nat.reduceLT, Nat.reduceSub, Nat.reduceMul, reduceCtorEq, Int.reduceEq, Int.reduceLT, Int.reduceLE, Int.reduceAdd, Int.reduceSub, Int.reduceNeg, Int.reduceToNat, undef, Value.cells, axL, f1, f3, wj, e]; rfl) rfl ?_
                  | (with_reducible first | refine end_reg (Ev.mono _ _) ?_ | refine end_dreg (Ev.mono _ _) ?_ | refine end_cond (Ev.mono _ _) ?_ | refine end_block (Ev.mono _ _) ?_ | refine end_loop (Ev.mono _ _) ?_))
              exact ⟨j + 1, by omega, hjl, by rw [ea], (H7.newc [.int .i64 W[j].1, .int .i64 W[j].2]).tail⟩
          · have hjn : j = W.length := by omega
            subst hjn
            have ea : aI W.length = (A.length : Int) := by rw [haI]; simp only [if_pos hAl]
            rw [ea]
            have ha0 : ¬ ((A.length : Int) < 0) := by omega
            have hwvl := SlT.len H7
            repeat' (first
                | (with_reducible first | refine go_assoc ?_ (Ev.mono _ _) | refine go_skip ?_ | refine go_fin ?_ | refine go_ret ?_ | refine go_ret0 ?_ | refine go_exit ?_ | refine go_exit0 ?_ | refine go_block ?_ | refine n_then ?_ | refine x_then ?_ | refine r_then ?_ | refine n_block ?_ | refine r_block ?_ | refine x_block ?_ | refine x_block_ne ?_ (by decide))
                | (with_reducible refine is_k ?_; refine go_k _ (by simp only [Ax.runK, Ax.runOps, Ax.run1, Ax.wantA, Ax.step, Ax.ev, Ax.evs, Ax.evo, Ax.evp, Ax.look, Ax.putE, Ax.keepE, Ax.argsE, Ax.extr, Ax.binV, Ax.intBin, Ax.unV, Ax.addOff, Ax.sizeN, Ax.mkV, Ax.okV, reduceIte, Nat.reduceEqDiff, Nat.reduceAdd, Nat.reduceLeDiff, Nat.reduceLT, Nat.reduceSub, Nat.reduceMul, reduceCtorEq, Int.reduceEq, Int.reduceLT, Int.reduceLE, Int.reduceAdd, Int.reduceSub, Int.reduceNeg, Int.reduceToNat, undef, Value.cells, axL, ha0, hwvl]; rfl) rfl ?_)
                | (with_reducible refine cond_t ?_ ?_; · simp only [Ax.ev, Ax.look, reduceIte, Nat.reduceEqDiff])
                | (with_reducible refine cond_f ?_ ?_; · simp only [Ax.ev, Ax.look, reduceIte, Nat.reduceEqDiff])
                | (with_reducible refine is_rp ?_; first | refine r_postR rfl ?_ | refine r_postR (by simp only [Ax.result, Ax.resVs, Ax.resV, R3, Ax.look, sizeN, mkV, Nat.reduceEqDiff, reduceIte, axL, ha0, hwvl]; rfl) ?_)
                | (with_reducible refine is_np ?_; first | refine n_postR rfl ?_ | refine n_postR (by simp only [Ax.result, Ax.resVs, Ax.resV, R3, Ax.look, sizeN, mkV, Nat.reduceEqDiff, reduceIte, axL, ha0, hwvl]; rfl) ?_)
                | (first | with_reducible refine is_wd ?_ | with_reducible refine dk_wd ?_); refine go_dt _ (by simp only [Ax.runDK, Ax.runDT, Ax.runDops, Ax.run1d, Ax.recs, Ax.okPair, Ax.idsE, Ax.idsV, AOp.mems, AOp.isWrite, DRec.none, axD, Ax.runK, Ax.runOps, Ax.run1, Ax.wantA, Ax.step, Ax.ev, Ax.evs, Ax.evo, Ax.evp, Ax.look, Ax.putE, Ax.keepE, Ax.argsE, Ax.extr, Ax.binV, Ax.intBin, Ax.unV, Ax.addOff, Ax.sizeN, Ax.mkV, Ax.okV, reduceIte, Nat.reduceEqDiff, Nat.reduceAdd, Nat.reduceLeDiff, Nat.reduceLT, Nat.reduceSub, Nat.reduceMul, reduceCtorEq, Int.reduceEq, Int.reduceLT, Int.reduceLE, Int.reduceAdd, Int.reduceSub, Int.reduceNeg, Int.reduceToNat, undef, Value.cells, axL, ha0, hwvl]; rfl) rfl ?_
                | (with_reducible first | refine end_reg (Ev.mono _ _) ?_ | refine end_dreg (Ev.mono _ _) ?_ | refine end_cond (Ev.mono _ _) ?_ | refine end_block (Ev.mono _ _) ?_ | refine end_loop (Ev.mono _ _) ?_))
            refine go_loop (Ev.mono _ _) (fun (j : Nat) ρ S' => j ≤ W.length ∧ ρ = [(121, .int .i64 j), (5, lv), (20, .int .i64 A.length), (4, wv), (119, wv), (3, .pointer (some ⟨L, 0, none⟩)), (31, v'), (32, .int .i64 l.length), (33, .int .i64 k), (120, .int .i64 W.length)] ∧ St R (SlT wv W :: SlT lv (less Lf j) :: LocksA L [m6] :: F) S') (fun j => W.length - j) 0 ⟨Nat.zero_le _, rfl, H7⟩ ?_
            clear H7 hj hlt wj
            rintro j ρ S8 ⟨hj, rfl, H8⟩
            have wj : IntKind.wrap .i64 ((j : Int) + 1) = ((j + 1 : Nat) : Int) := wrapI (n := (j : Int) + 1) (by unfold I64; omega)
            repeat' (first
                | (with_reducible first | refine go_assoc ?_ (Ev.mono _ _) | refine go_skip ?_ | refine go_fin ?_ | refine go_ret ?_ | refine go_ret0 ?_ | refine go_exit ?_ | refine go_exit0 ?_ | refine go_block ?_ | refine n_then ?_ | refine x_then ?_ | refine r_then ?_ | refine n_block ?_ | refine r_block ?_ | refine x_block ?_ | refine x_block_ne ?_ (by decide))
                | (with_reducible refine is_k ?_; refine go_k _ (by simp only [Ax.runK, Ax.runOps, Ax.run1, Ax.wantA, Ax.step, Ax.ev, Ax.evs, Ax.evo, Ax.evp, Ax.look, Ax.putE, Ax.keepE, Ax.argsE, Ax.extr, Ax.binV, Ax.intBin, Ax.unV, Ax.addOff, Ax.sizeN, Ax.mkV, Ax.okV, reduceIte, Nat.reduceEqDiff, Nat.reduceAdd, Nat.reduceLeDiff, Nat.reduceLT, Nat.reduceSub, Nat.reduceMul, reduceCtorEq, Int.reduceEq, Int.reduceLT, Int.reduceLE, Int.reduceAdd, Int.reduceSub, Int.reduceNeg, Int.reduceToNat, undef, Value.cells, axL]; rfl) rfl ?_)
                | (with_reducible refine cond_t ?_ ?_; · simp only [Ax.ev, Ax.look, reduceIte, Nat.reduceEqDiff])
                | (with_reducible refine cond_f ?_ ?_; · simp only [Ax.ev, Ax.look, reduceIte, Nat.reduceEqDiff])
                | (with_reducible refine is_rp ?_; first | refine r_postR rfl ?_ | refine r_postR (by simp only [Ax.result, Ax.resVs, Ax.resV, R3, Ax.look, sizeN, mkV, Nat.reduceEqDiff, reduceIte, axL]; rfl) ?_)
                | (with_reducible refine is_np ?_; first | refine n_postR rfl ?_ | refine n_postR (by simp only [Ax.result, Ax.resVs, Ax.resV, R3, Ax.look, sizeN, mkV, Nat.reduceEqDiff, reduceIte, axL]; rfl) ?_)
                | (first | with_reducible refine is_wd ?_ | with_reducible refine dk_wd ?_); refine go_dt _ (by simp only [Ax.runDK, Ax.runDT, Ax.runDops, Ax.run1d, Ax.recs, Ax.okPair, Ax.idsE, Ax.idsV, AOp.mems, AOp.isWrite, DRec.none, axD, Ax.runK, Ax.runOps, Ax.run1, Ax.wantA, Ax.step, Ax.ev, Ax.evs, Ax.evo, Ax.evp, Ax.look, Ax.putE, Ax.keepE, Ax.argsE, Ax.extr, Ax.binV, Ax.intBin, Ax.unV, Ax.addOff, Ax.sizeN, Ax.mkV, Ax.okV, reduceIte, Nat.reduceEqDiff, Nat.reduceAdd, Nat.reduceLeDiff, Nat.reduceLT, Nat.reduceSub, Nat.reduceMul, reduceCtorEq, Int.reduceEq, Int.reduceLT, Int.reduceLE, Int.reduceAdd, Int.reduceSub, Int.reduceNeg, Int.reduceToNat, undef, Value.cells, axL]; rfl) rfl ?_
                | (with_reducible first | refine end_reg (Ev.mono _ _) ?_ | refine end_dreg (Ev.mono _ _) ?_ | refine end_cond (Ev.mono _ _) ?_ | refine end_block (Ev.mono _ _) ?_ | refine end_loop (Ev.mono _ _) ?_))
            refine cond_d rfl (fun hlt => ?_) (fun hlt => ?_)
            · have hjl : j < W.length := by omega
              have hjL : j < Lf.length := by omega
              obtain ⟨b, a, f1, f2, f3, f4⟩ := RdT.at (SlT.read H8) hjl .i64
              rw [enc_pair] at f3
              have H9 := H8.newc [.int .i64 W[j].1, .int .i64 W[j].2]
              obtain ⟨b2, a2, g1, g2, g3, g4⟩ := RdT.at (SlT.read (H9.pick 4 [1, 2, 3] rfl)) hAl .i64
              rw [hWA] at g4
              have g5 := g4 1 _ (by omega) rfl
              have hp := hpos _ (List.getElem_mem hjL)
              have htop := hI.top _ (List.getElem_mem hjL)
              have w1 : IntKind.wrap .i64 (Lf[j] - 1) = Lf[j] - 1 := wrapI (by unfold I64; omega)
              have hn0 : ¬ (Lf[j] - 1 < 0) := by omega
              obtain ⟨b3, a3, p1, p2, p3, p4, p5, p6, p7⟩ := SlT.put (H9.pick 4 [2, 1, 3, 0] rfl) (k := j) (by rw [less_len _ (by omega)]; exact hjL) .i64
              have p8 := p5 1 (Nat.le_refl _)
              rw [less_get Lf hjL, enc_int] at p8
              obtain ⟨S10, q1, q2, q3, q4⟩ := p7 [.int .i64 (Lf[j] - 1)] (Lf[j] - 1) rfl
              rw [less_set Lf hjL] at q2
              obtain ⟨b4, a4, r1, r2, r3, r4⟩ := RdT.at (SlT.read q2) (k := j) (by rw [less_len _ (by omega)]; exact hjL) .i64
              have hne : j < A.length → ¬ (W[j].2 = to) := fun h => by
                have : W[j] ∈ A := by
                  have : W[j] = A[j] := by simp only [hW]; rw [List.getElem_append_left h]
                  rw [this]; exact List.getElem_mem h
                exact hA _ this
              have r5 := r4 0 (.int .i64 (Lf[j] - 1)) (by omega) (by
                have : (less Lf (j + 1))[j]? = some (Lf[j] - 1) := by
                  rw [← less_set Lf hjL, List.getElem?_set_self (by rw [less_len _ (by omega)]; exact hjL)]
                have h2 : (less Lf (j + 1))[j]'(by rw [less_len _ (by omega)]; exact hjL) = Lf[j] - 1 := by
                  rw [List.getElem?_eq_getElem (by rw [less_len _ (by omega)]; exact hjL)] at this
                  exact Option.some.inj this
                rw [h2]; rfl)
              rw [Nat.add_zero] at r5
              rw [p1] at r1
              simp only [Option.some.injEq, Value.pointer.injEq, Addr.mk.injEq, and_true] at r1
              obtain ⟨rfl, rfl⟩ := r1
              by_cases hjA' : j < A.length
              · have := hne hjA'
                have hjA : (j : Int) < (A.length : Int) := by omega
                repeat' (first
                    | (with_reducible first | refine go_assoc ?_ (Ev.mono _ _) | refine go_skip ?_ | refine go_fin ?_ | refine go_ret ?_ | refine go_ret0 ?_ | refine go_exit ?_ | refine go_exit0 ?_ | refine go_block ?_ | refine n_then ?_ | refine x_then ?_ | refine r_then ?_ | refine n_block ?_ | refine r_block ?_ | refine x_block ?_ | refine x_block_ne ?_ (by decide))
                    | (with_reducible refine is_k ?_; refine go_k _ (by simp only [Ax.runK, Ax.runOps, Ax.run1, Ax.wantA, Ax.step, Ax.ev, Ax.evs, Ax.evo, Ax.evp, Ax.look, Ax.putE, Ax.keepE, Ax.argsE, Ax.extr, Ax.binV, Ax.intBin, Ax.unV, Ax.addOff, Ax.sizeN, Ax.mkV, Ax.okV, reduceIte, Nat.reduceEqDiff, Nat.reduceAdd, Nat.reduceLeDiff, Nat.reduceLT, Nat.reduceSub, Nat.reduceMul, reduceCtorEq, Int.reduceEq, Int.reduceLT, Int.reduceLE, Int.reduceAdd, Int.reduceSub, Int.reduceNeg, Int.reduceToNat, undef, Value.cells, axL, f1, f3, wj, hjA, g1, g5, this, p1, p8, w1, q1, r5, hn0]; rfl) rfl ?_)
                    | (with_reducible refine cond_t ?_ ?_; · simp only [Ax.ev, Ax.look, reduceIte, Nat.reduceEqDiff])
                    | (with_reducible refine cond_f ?_ ?_; · simp only [Ax.ev, Ax.look, reduceIte, Nat.reduceEqDiff])
                    | (with_reducible refine is_rp ?_; first | refine r_postR rfl ?_ | refine r_postR (by simp only [Ax.result, Ax.resVs, Ax.resV, R3, Ax.look, sizeN, mkV, Nat.reduceEqDiff, reduceIte, axL, f1, f3, wj, hjA, g1, g5, this, p1, p8, w1, q1, r5, hn0]; rfl) ?_)
                    | (with_reducible refine is_np ?_; first | refine n_postR rfl ?_ | refine n_postR (by simp only [Ax.result, Ax.resVs, Ax.resV, R3, Ax.look, sizeN, mkV, Nat.reduceEqDiff, reduceIte, axL, f1, f3, wj, hjA, g1, g5, this, p1, p8, w1, q1, r5, hn0]; rfl) ?_)
                    | (first | with_reducible refine is_wd ?_ | with_reducible refine dk_wd ?_); refine go_dt _ (by simp only [Ax.runDK, Ax.runDT, Ax.runDops, Ax.run1d, Ax.recs, Ax.okPair, Ax.idsE, Ax.idsV, AOp.mems, AOp.isWrite, DRec.none, axD, Ax.runK, Ax.runOps, Ax.run1, Ax.wantA, Ax.step, Ax.ev, Ax.evs, Ax.evo, Ax.evp, Ax.look, Ax.putE, Ax.keepE, Ax.argsE, Ax.extr, Ax.binV, Ax.intBin, Ax.unV, Ax.addOff, Ax.sizeN, Ax.mkV, Ax.okV, reduceIte, Nat.reduceEqDiff, Nat.reduceAdd, Nat.reduceLeDiff, Nat.reduceLT, Nat.reduceSub, Nat.reduceMul, reduceCtorEq, Int.reduceEq, Int.reduceLT, Int.reduceLE, Int.reduceAdd, Int.reduceSub, Int.reduceNeg, Int.reduceToNat, undef, Value.cells, axL, f1, f3, wj, hjA, g1, g5, this, p1, p8, w1, q1, r5, hn0]; rfl) rfl ?_
                    | (with_reducible first | refine end_reg (Ev.mono _ _) ?_ | refine end_dreg (Ev.mono _ _) ?_ | refine end_cond (Ev.mono _ _) ?_ | refine end_block (Ev.mono _ _) ?_ | refine end_loop (Ev.mono _ _) ?_))
                exact ⟨j + 1, by omega, hjl, rfl, q2.pick 4 [1, 0, 2] rfl⟩
              · have hjA : ¬ ((j : Int) < (A.length : Int)) := by omega
                repeat' (first
                    | (with_reducible first | refine go_assoc ?_ (Ev.mono _ _) | refine go_skip ?_ | refine go_fin ?_ | refine go_ret ?_ | refine go_ret0 ?_ | refine go_exit ?_ | refine go_exit0 ?_ | refine go_block ?_ | refine n_then ?_ | refine x_then ?_ | refine r_then ?_ | refine n_block ?_ | refine r_block ?_ | refine x_block ?_ | refine x_block_ne ?_ (by decide))
                    | (with_reducible refine is_k ?_; refine go_k _ (by simp only [Ax.runK, Ax.runOps, Ax.run1, Ax.wantA, Ax.step, Ax.ev, Ax.evs, Ax.evo, Ax.evp, Ax.look, Ax.putE, Ax.keepE, Ax.argsE, Ax.extr, Ax.binV, Ax.intBin, Ax.unV, Ax.addOff, Ax.sizeN, Ax.mkV, Ax.okV, reduceIte, Nat.reduceEqDiff, Nat.reduceAdd, Nat.reduceLeDiff, Nat.reduceLT, Nat.reduceSub, Nat.reduceMul, reduceCtorEq, Int.reduceEq, Int.reduceLT, Int.reduceLE, Int.reduceAdd, Int.reduceSub, Int.reduceNeg, Int.reduceToNat, undef, Value.cells, axL, f1, f3, wj, hjA, p1, p8, w1, q1, r5, hn0]; rfl) rfl ?_)
                    | (with_reducible refine cond_t ?_ ?_; · simp only [Ax.ev, Ax.look, reduceIte, Nat.reduceEqDiff])
                    | (with_reducible refine cond_f ?_ ?_; · simp only [Ax.ev, Ax.look, reduceIte, Nat.reduceEqDiff])
                    | (with_reducible refine is_rp ?_; first | refine r_postR rfl ?_ | refine r_postR (by simp only [Ax.result, Ax.resVs, Ax.resV, R3, Ax.look, sizeN, mkV, Nat.reduceEqDiff, reduceIte, axL, f1, f3, wj, hjA, p1, p8, w1, q1, r5, hn0]; rfl) ?_)
                    | (with_reducible refine is_np ?_; first | refine n_postR rfl ?_ | refine n_postR (by simp only [Ax.result, Ax.resVs, Ax.resV, R3, Ax.look, sizeN, mkV, Nat.reduceEqDiff, reduceIte, axL, f1, f3, wj, hjA, p1, p8, w1, q1, r5, hn0]; rfl) ?_)
                    | (first | with_reducible refine is_wd ?_ | with_reducible refine dk_wd ?_); refine go_dt _ (by simp only [Ax.runDK, Ax.runDT, Ax.runDops, Ax.run1d, Ax.recs, Ax.okPair, Ax.idsE, Ax.idsV, AOp.mems, AOp.isWrite, DRec.none, axD, Ax.runK, Ax.runOps, Ax.run1, Ax.wantA, Ax.step, Ax.ev, Ax.evs, Ax.evo, Ax.evp, Ax.look, Ax.putE, Ax.keepE, Ax.argsE, Ax.extr, Ax.binV, Ax.intBin, Ax.unV, Ax.addOff, Ax.sizeN, Ax.mkV, Ax.okV, reduceIte, Nat.reduceEqDiff, Nat.reduceAdd, Nat.reduceLeDiff, Nat.reduceLT, Nat.reduceSub, Nat.reduceMul, reduceCtorEq, Int.reduceEq, Int.reduceLT, Int.reduceLE, Int.reduceAdd, Int.reduceSub, Int.reduceNeg, Int.reduceToNat, undef, Value.cells, axL, f1, f3, wj, hjA, p1, p8, w1, q1, r5, hn0]; rfl) rfl ?_
                    | (with_reducible first | refine end_reg (Ev.mono _ _) ?_ | refine end_dreg (Ev.mono _ _) ?_ | refine end_cond (Ev.mono _ _) ?_ | refine end_block (Ev.mono _ _) ?_ | refine end_loop (Ev.mono _ _) ?_))
                exact ⟨j + 1, by omega, hjl, rfl, q2.pick 4 [1, 0, 2] rfl⟩
            · have hjn : j = W.length := by omega
              subst hjn
              have hAB : W.take A.length = A ∧ W.drop (A.length + 1) = B := by rw [hW]; simp
              have hLl : less Lf W.length = Lf.map (· - 1) := by rw [hLlen]; simp [less]
              rw [hLl] at H8
              generalize hL6 : Lf.map (· - 1) = L6 at H8 hI6
              have hL6l : L6.length = W.length := by rw [← hL6, List.length_map, hLlen]
              have wa : IntKind.wrap .i64 ((A.length : Int) + 1) = ((A.length + 1 : Nat) : Int) := wrapI (n := (A.length : Int) + 1) (by unfold I64; omega)
              have K1 := (SlT.fresh (l := ([] : List (Int × Int))) (H8.newc [])).pick 4 [1, 0, 2, 3] rfl
              obtain ⟨vA, x1, x2⟩ := RdT.slice (SlT.read K1) (lo := 0) (hi := A.length) (Nat.zero_le _) (by omega) none (some (.int .i64 A.length)) (.inl ⟨rfl, rfl⟩) (.inr ⟨_, rfl⟩)
              rw [List.drop_zero, Nat.sub_zero, hAB.1] at x2
              obtain ⟨v1, T1, y1, K2⟩ := SlT.append (K1.pick 4 [1, 0, 2, 3] rfl) (bytes := 16) (m := A) (x := vA) (Rd.src x2) (Rd.srcLen x2) (by simp; omega)
              rw [List.nil_append] at K2
              obtain ⟨vB, x3, x4⟩ := RdT.slice (SlT.read (K2.pick 4 [1, 0, 2, 3] rfl)) (lo := A.length + 1) (hi := W.length) (by omega) (Nat.le_refl _) (some (.int .i64 (A.length + 1 : Nat))) none (.inr ⟨_, rfl⟩) (.inl ⟨rfl, rfl⟩)
              rw [hAB.2, List.take_of_length_le (by rw [hW]; simp; omega)] at x4
              obtain ⟨v2, T2, y2, K3⟩ := SlT.append K2 (bytes := 16) (m := B) (x := vB) (Rd.src x4) (Rd.srcLen x4) (by rw [hW] at hWlen; simp at hWlen; omega)
              have K4 := (SlT.fresh (l := ([] : List Int)) ((K3.pick 4 [0, 2, 3] rfl).newc [])).pick 4 [2, 0, 1, 3] rfl
              obtain ⟨vC, x5, x6⟩ := RdT.slice (SlT.read K4) (lo := 0) (hi := A.length) (Nat.zero_le _) (by omega) none (some (.int .i64 A.length)) (.inl ⟨rfl, rfl⟩) (.inr ⟨_, rfl⟩)
              rw [List.drop_zero, Nat.sub_zero] at x6
              obtain ⟨v3, T3, y3, K5⟩ := SlT.append (K4.pick 4 [1, 0, 2, 3] rfl) (bytes := 8) (m := L6.take A.length) (x := vC) (Rd.src x6) (Rd.srcLen x6) (by simp; omega)
              rw [List.nil_append] at K5
              obtain ⟨vD, x7, x8⟩ := RdT.slice (SlT.read (K5.pick 4 [1, 0, 2, 3] rfl)) (lo := A.length + 1) (hi := L6.length) (by omega) (Nat.le_refl _) (some (.int .i64 (A.length + 1 : Nat))) none (.inr ⟨_, rfl⟩) (.inl ⟨rfl, rfl⟩)
              rw [List.take_of_length_le (by simp)] at x8
              obtain ⟨v4, T4, y4, K6⟩ := SlT.append K5 (bytes := 8) (m := L6.drop (A.length + 1)) (x := vD) (Rd.src x8) (Rd.srcLen x8) (by simp; omega)
              rw [← List.eraseIdx_eq_take_drop_succ] at K6
              rw [List.length_nil] at y1 y3
              repeat' (first
                  | (with_reducible first | refine go_assoc ?_ (Ev.mono _ _) | refine go_skip ?_ | refine go_fin ?_ | refine go_ret ?_ | refine go_ret0 ?_ | refine go_exit ?_ | refine go_exit0 ?_ | refine go_block ?_ | refine n_then ?_ | refine x_then ?_ | refine r_then ?_ | refine n_block ?_ | refine r_block ?_ | refine x_block ?_ | refine x_block_ne ?_ (by decide))
                  | (with_reducible refine is_k ?_; refine go_k _ (by simp only [Ax.runK, Ax.runOps, Ax.run1, Ax.wantA, Ax.step, Ax.ev, Ax.evs, Ax.evo, Ax.evp, Ax.look, Ax.putE, Ax.keepE, Ax.argsE, Ax.extr, Ax.binV, Ax.intBin, Ax.unV, Ax.addOff, Ax.sizeN, Ax.mkV, Ax.okV, reduceIte, Nat.reduceEqDiff, Nat.reduceAdd, Nat.reduceLeDiff, Nat.reduceLT, Nat.reduceSub, Nat.reduceMul, reduceCtorEq, Int.reduceEq, Int.reduceLT, Int.reduceLE, Int.reduceAdd, Int.reduceSub, Int.reduceNeg, Int.reduceToNat, undef, Value.cells, axL, x1, y1, wa, x3, y2, x5, y3, x7, y4, wk]; rfl) rfl ?_)
                  | (with_reducible refine cond_t ?_ ?_; · simp only [Ax.ev, Ax.look, reduceIte, Nat.reduceEqDiff])
                  | (with_reducible refine cond_f ?_ ?_; · simp only [Ax.ev, Ax.look, reduceIte, Nat.reduceEqDiff])
                  | (with_reducible refine is_rp ?_; first | refine r_postR rfl ?_ | refine r_postR (by simp only [Ax.result, Ax.resVs, Ax.resV, R3, Ax.look, sizeN, mkV, Nat.reduceEqDiff, reduceIte, axL, x1, y1, wa, x3, y2, x5, y3, x7, y4, wk]; rfl) ?_)
                  | (with_reducible refine is_np ?_; first | refine n_postR rfl ?_ | refine n_postR (by simp only [Ax.result, Ax.resVs, Ax.resV, R3, Ax.look, sizeN, mkV, Nat.reduceEqDiff, reduceIte, axL, x1, y1, wa, x3, y2, x5, y3, x7, y4, wk]; rfl) ?_)
                  | (first | with_reducible refine is_wd ?_ | with_reducible refine dk_wd ?_); refine go_dt _ (by simp only [Ax.runDK, Ax.runDT, Ax.runDops, Ax.run1d, Ax.recs, Ax.okPair, Ax.idsE, Ax.idsV, AOp.mems, AOp.isWrite, DRec.none, axD, Ax.runK, Ax.runOps, Ax.run1, Ax.wantA, Ax.step, Ax.ev, Ax.evs, Ax.evo, Ax.evp, Ax.look, Ax.putE, Ax.keepE, Ax.argsE, Ax.extr, Ax.binV, Ax.intBin, Ax.unV, Ax.addOff, Ax.sizeN, Ax.mkV, Ax.okV, reduceIte, Nat.reduceEqDiff, Nat.reduceAdd, Nat.reduceLeDiff, Nat.reduceLT, Nat.reduceSub, Nat.reduceMul, reduceCtorEq, Int.reduceEq, Int.reduceLT, Int.reduceLE, Int.reduceAdd, Int.reduceSub, Int.reduceNeg, Int.reduceToNat, undef, Value.cells, axL, x1, y1, wa, x3, y2, x5, y3, x7, y4, wk]; rfl) rfl ?_
                  | (with_reducible first | refine end_reg (Ev.mono _ _) ?_ | refine end_dreg (Ev.mono _ _) ?_ | refine end_cond (Ev.mono _ _) ?_ | refine end_block (Ev.mono _ _) ?_ | refine end_loop (Ev.mono _ _) ?_))
              exact ⟨(k + 1, m6, o', upF f to ts, A ++ B, L6.eraseIdx A.length, v2, v4), by simp; omega, ⟨by simp; omega, hI6, rfl, K6.pick 4 [2, 0, 3] rfl⟩⟩
  · repeat' (first
        | (with_reducible first | refine go_assoc ?_ (Ev.mono _ _) | refine go_skip ?_ | refine go_fin ?_ | refine go_ret ?_ | refine go_ret0 ?_ | refine go_exit ?_ | refine go_exit0 ?_ | refine go_block ?_ | refine n_then ?_ | refine x_then ?_ | refine r_then ?_ | refine n_block ?_ | refine r_block ?_ | refine x_block ?_ | refine x_block_ne ?_ (by decide))
        | (with_reducible refine is_k ?_; refine go_k _ (by simp only [Ax.runK, Ax.runOps, Ax.run1, Ax.wantA, Ax.step, Ax.ev, Ax.evs, Ax.evo, Ax.evp, Ax.look, Ax.putE, Ax.keepE, Ax.argsE, Ax.extr, Ax.binV, Ax.intBin, Ax.unV, Ax.addOff, Ax.sizeN, Ax.mkV, Ax.okV, reduceIte, Nat.reduceEqDiff, Nat.reduceAdd, Nat.reduceLeDiff, Nat.reduceLT, Nat.reduceSub, Nat.reduceMul, reduceCtorEq, Int.reduceEq, Int.reduceLT, Int.reduceLE, Int.reduceAdd, Int.reduceSub, Int.reduceNeg, Int.reduceToNat, undef, Value.cells, axL]; rfl) rfl ?_)
        | (with_reducible refine cond_t ?_ ?_; · simp only [Ax.ev, Ax.look, reduceIte, Nat.reduceEqDiff])
        | (with_reducible refine cond_f ?_ ?_; · simp only [Ax.ev, Ax.look, reduceIte, Nat.reduceEqDiff])
        | (with_reducible refine is_rp ?_; first | refine r_postR rfl ?_ | refine r_postR (by simp only [Ax.result, Ax.resVs, Ax.resV, R3, Ax.look, sizeN, mkV, Nat.reduceEqDiff, reduceIte, axL]; rfl) ?_)
        | (with_reducible refine is_np ?_; first | refine n_postR rfl ?_ | refine n_postR (by simp only [Ax.result, Ax.resVs, Ax.resV, R3, Ax.look, sizeN, mkV, Nat.reduceEqDiff, reduceIte, axL]; rfl) ?_)
        | (first | with_reducible refine is_wd ?_ | with_reducible refine dk_wd ?_); refine go_dt _ (by simp only [Ax.runDK, Ax.runDT, Ax.runDops, Ax.run1d, Ax.recs, Ax.okPair, Ax.idsE, Ax.idsV, AOp.mems, AOp.isWrite, DRec.none, axD, Ax.runK, Ax.runOps, Ax.run1, Ax.wantA, Ax.step, Ax.ev, Ax.evs, Ax.evo, Ax.evp, Ax.look, Ax.putE, Ax.keepE, Ax.argsE, Ax.extr, Ax.binV, Ax.intBin, Ax.unV, Ax.addOff, Ax.sizeN, Ax.mkV, Ax.okV, reduceIte, Nat.reduceEqDiff, Nat.reduceAdd, Nat.reduceLeDiff, Nat.reduceLT, Nat.reduceSub, Nat.reduceMul, reduceCtorEq, Int.reduceEq, Int.reduceLT, Int.reduceLE, Int.reduceAdd, Int.reduceSub, Int.reduceNeg, Int.reduceToNat, undef, Value.cells, axL]; rfl) rfl ?_
        | (with_reducible first | refine end_reg (Ev.mono _ _) ?_ | refine end_dreg (Ev.mono _ _) ?_ | refine end_cond (Ev.mono _ _) ?_ | refine end_block (Ev.mono _ _) ?_ | refine end_loop (Ev.mono _ _) ?_))
    repeat' (with_reducible first | refine go_assoc ?_ (Ev.mono _ _) | refine go_skip ?_ | refine go_block ?_ | refine end_reg (Ev.mono _ _) ?_)
    refine go_callC _ (by simp only [Ax.runC, AOp.isCall, Ax.runK, Ax.runOps, Ax.run1, Ax.wantA, Ax.step, Ax.ev, Ax.evs, Ax.evo, Ax.evp, Ax.look, Ax.putE, Ax.keepE, Ax.argsE, Ax.extr, Ax.binV, Ax.intBin, Ax.unV, Ax.addOff, Ax.sizeN, Ax.mkV, Ax.okV, reduceIte, Nat.reduceEqDiff, Nat.reduceAdd, Nat.reduceLeDiff, Nat.reduceLT, Nat.reduceSub, Nat.reduceMul, reduceCtorEq, Int.reduceEq, Int.reduceLT, Int.reduceLE, Int.reduceAdd, Int.reduceSub, Int.reduceNeg, Int.reduceToNat, undef, Value.cells, axL]; rfl) rfl rfl (by simp only [Ax.wantA, Ax.look, reduceIte, Nat.reduceEqDiff, bq_t, bq_f, Bool.not_true, Bool.not_false]; try rfl) rfl (by simp only [Ax.runK, Ax.runOps, Ax.run1, Ax.wantA, Ax.step, Ax.ev, Ax.evs, Ax.evo, Ax.evp, Ax.look, Ax.putE, Ax.keepE, Ax.argsE, Ax.extr, Ax.binV, Ax.intBin, Ax.unV, Ax.addOff, Ax.sizeN, Ax.mkV, Ax.okV, reduceIte, Nat.reduceEqDiff, Nat.reduceAdd, Nat.reduceLeDiff, Nat.reduceLT, Nat.reduceSub, Nat.reduceMul, reduceCtorEq, Int.reduceEq, Int.reduceLT, Int.reduceLE, Int.reduceAdd, Int.reduceSub, Int.reduceNeg, Int.reduceToNat, undef, Value.cells, axL]; try rfl) ?_
    refine Ev.known G_live X_live ?_
    repeat' (first
        | (with_reducible first | refine go_assoc ?_ (Ev.mono _ _) | refine go_skip ?_ | refine go_fin ?_ | refine go_ret ?_ | refine go_ret0 ?_ | refine go_exit ?_ | refine go_exit0 ?_ | refine go_block ?_ | refine n_then ?_ | refine x_then ?_ | refine r_then ?_ | refine n_block ?_ | refine r_block ?_ | refine x_block ?_ | refine x_block_ne ?_ (by decide))
        | (with_reducible refine is_k ?_; refine go_k _ (by simp only [Ax.runK, Ax.runOps, Ax.run1, Ax.wantA, Ax.step, Ax.ev, Ax.evs, Ax.evo, Ax.evp, Ax.look, Ax.putE, Ax.keepE, Ax.argsE, Ax.extr, Ax.binV, Ax.intBin, Ax.unV, Ax.addOff, Ax.sizeN, Ax.mkV, Ax.okV, reduceIte, Nat.reduceEqDiff, Nat.reduceAdd, Nat.reduceLeDiff, Nat.reduceLT, Nat.reduceSub, Nat.reduceMul, reduceCtorEq, Int.reduceEq, Int.reduceLT, Int.reduceLE, Int.reduceAdd, Int.reduceSub, Int.reduceNeg, Int.reduceToNat, undef, Value.cells, axL]; rfl) rfl ?_)
        | (with_reducible refine cond_t ?_ ?_; · simp only [Ax.ev, Ax.look, reduceIte, Nat.reduceEqDiff])
        | (with_reducible refine cond_f ?_ ?_; · simp only [Ax.ev, Ax.look, reduceIte, Nat.reduceEqDiff])
        | (with_reducible refine is_rp ?_; first | refine r_postR rfl ?_ | refine r_postR (by simp only [Ax.result, Ax.resVs, Ax.resV, R3, Ax.look, sizeN, mkV, Nat.reduceEqDiff, reduceIte, axL]; rfl) ?_)
        | (with_reducible refine is_np ?_; first | refine n_postR rfl ?_ | refine n_postR (by simp only [Ax.result, Ax.resVs, Ax.resV, R3, Ax.look, sizeN, mkV, Nat.reduceEqDiff, reduceIte, axL]; rfl) ?_)
        | (first | with_reducible refine is_wd ?_ | with_reducible refine dk_wd ?_); refine go_dt _ (by simp only [Ax.runDK, Ax.runDT, Ax.runDops, Ax.run1d, Ax.recs, Ax.okPair, Ax.idsE, Ax.idsV, AOp.mems, AOp.isWrite, DRec.none, axD, Ax.runK, Ax.runOps, Ax.run1, Ax.wantA, Ax.step, Ax.ev, Ax.evs, Ax.evo, Ax.evp, Ax.look, Ax.putE, Ax.keepE, Ax.argsE, Ax.extr, Ax.binV, Ax.intBin, Ax.unV, Ax.addOff, Ax.sizeN, Ax.mkV, Ax.okV, reduceIte, Nat.reduceEqDiff, Nat.reduceAdd, Nat.reduceLeDiff, Nat.reduceLT, Nat.reduceSub, Nat.reduceMul, reduceCtorEq, Int.reduceEq, Int.reduceLT, Int.reduceLE, Int.reduceAdd, Int.reduceSub, Int.reduceNeg, Int.reduceToNat, undef, Value.cells, axL]; rfl) rfl ?_
        | (with_reducible first | refine end_reg (Ev.mono _ _) ?_ | refine end_dreg (Ev.mono _ _) ?_ | refine end_cond (Ev.mono _ _) ?_ | refine end_block (Ev.mono _ _) ?_ | refine end_loop (Ev.mono _ _) ?_))
    rfl
end Go.Proofs.Ytgnjkkppahhhfaa

