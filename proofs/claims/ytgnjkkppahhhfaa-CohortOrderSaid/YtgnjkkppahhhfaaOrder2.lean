/- Part 2 of Order. -/
import Derived.Test.YtgnjkkppahhhfaaOrder1
set_option linter.unusedVariables false
set_option linter.unusedSimpArgs false
set_option linter.unnecessarySimpa false
/- Law 14: Give. -/
namespace Go.Proofs.Ytgnjkkppahhhfaa
open Go.Ax
open Go.Ax.Enc (enc)

def staysM (m : LockM) : Prop := 0 ≤ idxL (fun r => decide (r.1 = m.socket)) m.rows 0 ∧ (m.passes < 3 ∨ m.rows.length = 1)
instance (m : LockM) : Decidable (staysM m) := by unfold staysM; exact inferInstance

def ownI (m : LockM) : Nat := (idxL (fun r => decide (r.1 = m.socket)) m.rows 0).toNat

/-- The lock goes to the next one. -/
def passM (m : LockM) : LockM :=
  if staysM m then { m with passes := m.passes + 1, owner := headAt m.rows (ownI m), rows := cutRow m.rows (ownI m) }
  else { awayM m with owner := headAt m.rows (awayI m) }

def giveM (m : LockM) (t : Int) : LockM × Int × Bool × Int :=
  if m.held = false ∨ ¬ m.owner = t then (m, 0, false, 8)
  else if m.rows = [] then (⟨false, 0, 0, 0, []⟩, 0, false, 0)
  else (passM m, (passM m).owner, true, 0)

/-- What is always so of a lock: each row has tasks, and its own socket. -/
structure LkInv (m : LockM) : Prop where
  small : Small m
  full : Full m
  nd : (m.rows.map (·.1)).Nodup
  pass : I64 (m.passes + 1)

theorem other_row {m : LockM} (h : LkInv m) (hne : m.rows ≠ []) (hns : ¬ staysM m) : ∃ r ∈ m.rows, ¬ r.1 = m.socket := by
  by_cases hex : ∃ r ∈ m.rows, ¬ r.1 = m.socket
  · exact hex
  · exfalso
    have hall : ∀ r ∈ m.rows, r.1 = m.socket := fun r hr => by
      by_cases e : r.1 = m.socket
      · exact e
      · exact absurd ⟨r, hr, e⟩ hex
    cases hr : m.rows with
    | nil => exact hne hr
    | cons a l =>
      have ha : a.1 = m.socket := hall a (by rw [hr]; simp)
      cases hl : l with
      | nil =>
        refine hns ⟨?_, .inr (by rw [hr, hl]; rfl)⟩
        rw [hr]; simp [idxL, ha]
      | cons c l' =>
        have hc : c.1 = m.socket := hall c (by rw [hr, hl]; simp)
        have := h.nd
        rw [hr, hl] at this
        simp [ha, hc] at this

theorem give_spec (X : Nat → List Value → Option Value) {R : Nat → Option (List Value)} {F : List Asn} {S : AS} {L : Nat} {ms : List LockM} (H : St R (LocksA L ms :: F) S) (hs : ∀ m ∈ ms, LkInv m) (n task : Int) {Q : Value → AS → Prop}
    (hq0 : ¬ (0 ≤ n ∧ n < ms.length) → Q (.tuple #[.int .i64 0, .bool false, .int .i64 3]) S)
    (hq : ∀ k : Nat, n = k → ∀ hk : k < ms.length, ∀ S', St R (LocksA L (ms.set k (giveM ms[k] task).1) :: F) S' → Q (.tuple #[.int .i64 (giveM ms[k] task).2.1, .bool (giveM ms[k] task).2.2.1, .int .i64 (giveM ms[k] task).2.2.2]) S') :
    Ev G X 10 [.pointer (some ⟨L, 0, none⟩), .int .i64 n, .int .i64 task] S Q := by
  by_cases hn : 0 ≤ n ∧ n < ms.length
  · obtain ⟨k, rfl⟩ : ∃ k : Nat, n = k := ⟨n.toNat, by omega⟩
    have hk : k < ms.length := by omega
    obtain ⟨lv, b, pre, post, rv, G', hL, hlv, hix, H1, back⟩ := LocksA.focus H hk
    have hinv := hs _ (List.getElem_mem hk)
    have hqq := hq k rfl hk
    generalize ms[k] = m at H1 hinv hqq
    have hb := H1.pget
    unfold lockC at hb
    refine Ev.fnR (rs := R10) (c := A10) rfl ?_; unfold A10
    repeat' (first
        | (with_reducible first | refine go_assoc ?_ (Ev.mono _ _) | refine go_skip ?_ | refine go_fin ?_ | refine go_ret ?_ | refine go_ret0 ?_ | refine go_exit ?_ | refine go_exit0 ?_ | refine go_block ?_ | refine n_then ?_ | refine x_then ?_ | refine r_then ?_ | refine n_block ?_ | refine r_block ?_ | refine x_block ?_ | refine x_block_ne ?_ (by decide))
        | (with_reducible refine is_k ?_; refine go_k _ (by simp only [Ax.runK, Ax.runOps, Ax.run1, Ax.wantA, Ax.step, Ax.ev, Ax.evs, Ax.evo, Ax.evp, Ax.look, Ax.putE, Ax.keepE, Ax.argsE, Ax.extr, Ax.binV, Ax.intBin, Ax.unV, Ax.addOff, Ax.sizeN, Ax.mkV, Ax.okV, reduceIte, Nat.reduceEqDiff, Nat.reduceAdd, Nat.reduceLeDiff, Nat.reduceLT, Nat.reduceSub, Nat.reduceMul, reduceCtorEq, Int.reduceEq, Int.reduceLT, Int.reduceLE, Int.reduceAdd, Int.reduceSub, Int.reduceNeg, Int.reduceToNat, undef, Value.cells, axL]; rfl) rfl ?_)
        | (with_reducible refine cond_t ?_ ?_; · simp only [Ax.ev, Ax.look, reduceIte, Nat.reduceEqDiff])
        | (with_reducible refine cond_f ?_ ?_; · simp only [Ax.ev, Ax.look, reduceIte, Nat.reduceEqDiff])
        | (with_reducible refine is_rp ?_; first | refine r_postR rfl ?_ | refine r_postR (by simp only [Ax.result, Ax.resVs, Ax.resV, R10, Ax.look, sizeN, mkV, Nat.reduceEqDiff, reduceIte, axL]; rfl) ?_)
        | (with_reducible refine is_np ?_; first | refine n_postR rfl ?_ | refine n_postR (by simp only [Ax.result, Ax.resVs, Ax.resV, R10, Ax.look, sizeN, mkV, Nat.reduceEqDiff, reduceIte, axL]; rfl) ?_)
        | (first | with_reducible refine is_wd ?_ | with_reducible refine dk_wd ?_); refine go_dt _ (by simp only [Ax.runDK, Ax.runDT, Ax.runDops, Ax.run1d, Ax.recs, Ax.okPair, Ax.idsE, Ax.idsV, AOp.mems, AOp.isWrite, DRec.none, axD, Ax.runK, Ax.runOps, Ax.run1, Ax.wantA, Ax.step, Ax.ev, Ax.evs, Ax.evo, Ax.evp, Ax.look, Ax.putE, Ax.keepE, Ax.argsE, Ax.extr, Ax.binV, Ax.intBin, Ax.unV, Ax.addOff, Ax.sizeN, Ax.mkV, Ax.okV, reduceIte, Nat.reduceEqDiff, Nat.reduceAdd, Nat.reduceLeDiff, Nat.reduceLT, Nat.reduceSub, Nat.reduceMul, reduceCtorEq, Int.reduceEq, Int.reduceLT, Int.reduceLE, Int.reduceAdd, Int.reduceSub, Int.reduceNeg, Int.reduceToNat, undef, Value.cells, axL]; rfl) rfl ?_
        | (with_reducible first | refine end_reg (Ev.mono _ _) ?_ | refine end_dreg (Ev.mono _ _) ?_ | refine end_cond (Ev.mono _ _) ?_ | refine end_block (Ev.mono _ _) ?_ | refine end_loop (Ev.mono _ _) ?_))
    repeat' (with_reducible first | refine go_assoc ?_ (Ev.mono _ _) | refine go_skip ?_ | refine go_block ?_ | refine end_reg (Ev.mono _ _) ?_)
    refine go_callC _ (by simp only [Ax.runC, AOp.isCall, Ax.runK, Ax.runOps, Ax.run1, Ax.wantA, Ax.step, Ax.ev, Ax.evs, Ax.evo, Ax.evp, Ax.look, Ax.putE, Ax.keepE, Ax.argsE, Ax.extr, Ax.binV, Ax.intBin, Ax.unV, Ax.addOff, Ax.sizeN, Ax.mkV, Ax.okV, reduceIte, Nat.reduceEqDiff, Nat.reduceAdd, Nat.reduceLeDiff, Nat.reduceLT, Nat.reduceSub, Nat.reduceMul, reduceCtorEq, Int.reduceEq, Int.reduceLT, Int.reduceLE, Int.reduceAdd, Int.reduceSub, Int.reduceNeg, Int.reduceToNat, undef, Value.cells, axL]; rfl) rfl rfl (by simp only [Ax.wantA, Ax.look, reduceIte, Nat.reduceEqDiff, bq_t, bq_f, Bool.not_true, Bool.not_false]; try rfl) rfl (by simp only [Ax.runK, Ax.runOps, Ax.run1, Ax.wantA, Ax.step, Ax.ev, Ax.evs, Ax.evo, Ax.evp, Ax.look, Ax.putE, Ax.keepE, Ax.argsE, Ax.extr, Ax.binV, Ax.intBin, Ax.unV, Ax.addOff, Ax.sizeN, Ax.mkV, Ax.okV, reduceIte, Nat.reduceEqDiff, Nat.reduceAdd, Nat.reduceLeDiff, Nat.reduceLT, Nat.reduceSub, Nat.reduceMul, reduceCtorEq, Int.reduceEq, Int.reduceLT, Int.reduceLE, Int.reduceAdd, Int.reduceSub, Int.reduceNeg, Int.reduceToNat, undef, Value.cells, axL]; try rfl) ?_
    refine at_spec X hL hlv k (fun _ _ => hix .i64) (fun h => absurd hn h) (fun _ _ => ?_)
    by_cases hno : m.held = false ∨ ¬ m.owner = task
    · have e : giveM m task = (m, 0, false, 8) := by simp only [giveM]; rw [if_pos hno]
      rw [e] at hqq
      have hfin := hqq S (back _ _ _ H1)
      cases hheld : m.held with
      | false =>
        repeat' (first
            | (with_reducible first | refine go_assoc ?_ (Ev.mono _ _) | refine go_skip ?_ | refine go_fin ?_ | refine go_ret ?_ | refine go_ret0 ?_ | refine go_exit ?_ | refine go_exit0 ?_ | refine go_block ?_ | refine n_then ?_ | refine x_then ?_ | refine r_then ?_ | refine n_block ?_ | refine r_block ?_ | refine x_block ?_ | refine x_block_ne ?_ (by decide))
            | (with_reducible refine is_k ?_; refine go_k _ (by simp only [Ax.runK, Ax.runOps, Ax.run1, Ax.wantA, Ax.step, Ax.ev, Ax.evs, Ax.evo, Ax.evp, Ax.look, Ax.putE, Ax.keepE, Ax.argsE, Ax.extr, Ax.binV, Ax.intBin, Ax.unV, Ax.addOff, Ax.sizeN, Ax.mkV, Ax.okV, reduceIte, Nat.reduceEqDiff, Nat.reduceAdd, Nat.reduceLeDiff, Nat.reduceLT, Nat.reduceSub, Nat.reduceMul, reduceCtorEq, Int.reduceEq, Int.reduceLT, Int.reduceLE, Int.reduceAdd, Int.reduceSub, Int.reduceNeg, Int.reduceToNat, undef, Value.cells, axL, get1 hb, hheld]; rfl) rfl ?_)
            | (with_reducible refine cond_t ?_ ?_; · simp only [Ax.ev, Ax.look, reduceIte, Nat.reduceEqDiff])
            | (with_reducible refine cond_f ?_ ?_; · simp only [Ax.ev, Ax.look, reduceIte, Nat.reduceEqDiff])
            | (with_reducible refine is_rp ?_; first | refine r_postR rfl ?_ | refine r_postR (by simp only [Ax.result, Ax.resVs, Ax.resV, R10, Ax.look, sizeN, mkV, Nat.reduceEqDiff, reduceIte, axL, get1 hb, hheld]; rfl) ?_)
            | (with_reducible refine is_np ?_; first | refine n_postR rfl ?_ | refine n_postR (by simp only [Ax.result, Ax.resVs, Ax.resV, R10, Ax.look, sizeN, mkV, Nat.reduceEqDiff, reduceIte, axL, get1 hb, hheld]; rfl) ?_)
            | (first | with_reducible refine is_wd ?_ | with_reducible refine dk_wd ?_); refine go_dt _ (by simp only [Ax.runDK, Ax.runDT, Ax.runDops, Ax.run1d, Ax.recs, Ax.okPair, Ax.idsE, Ax.idsV, AOp.mems, AOp.isWrite, DRec.none, axD, Ax.runK, Ax.runOps, Ax.run1, Ax.wantA, Ax.step, Ax.ev, Ax.evs, Ax.evo, Ax.evp, Ax.look, Ax.putE, Ax.keepE, Ax.argsE, Ax.extr, Ax.binV, Ax.intBin, Ax.unV, Ax.addOff, Ax.sizeN, Ax.mkV, Ax.okV, reduceIte, Nat.reduceEqDiff, Nat.reduceAdd, Nat.reduceLeDiff, Nat.reduceLT, Nat.reduceSub, Nat.reduceMul, reduceCtorEq, Int.reduceEq, Int.reduceLT, Int.reduceLE, Int.reduceAdd, Int.reduceSub, Int.reduceNeg, Int.reduceToNat, undef, Value.cells, axL, get1 hb, hheld]; rfl) rfl ?_
            | (with_reducible first | refine end_reg (Ev.mono _ _) ?_ | refine end_dreg (Ev.mono _ _) ?_ | refine end_cond (Ev.mono _ _) ?_ | refine end_block (Ev.mono _ _) ?_ | refine end_loop (Ev.mono _ _) ?_))
        exact hfin
      | true =>
        have ho : ¬ m.owner = task := by rcases hno with h | h; rw [hheld] at h; cases h; exact h
        repeat' (first
            | (with_reducible first | refine go_assoc ?_ (Ev.mono _ _) | refine go_skip ?_ | refine go_fin ?_ | refine go_ret ?_ | refine go_ret0 ?_ | refine go_exit ?_ | refine go_exit0 ?_ | refine go_block ?_ | refine n_then ?_ | refine x_then ?_ | refine r_then ?_ | refine n_block ?_ | refine r_block ?_ | refine x_block ?_ | refine x_block_ne ?_ (by decide))
            | (with_reducible refine is_k ?_; refine go_k _ (by simp only [Ax.runK, Ax.runOps, Ax.run1, Ax.wantA, Ax.step, Ax.ev, Ax.evs, Ax.evo, Ax.evp, Ax.look, Ax.putE, Ax.keepE, Ax.argsE, Ax.extr, Ax.binV, Ax.intBin, Ax.unV, Ax.addOff, Ax.sizeN, Ax.mkV, Ax.okV, reduceIte, Nat.reduceEqDiff, Nat.reduceAdd, Nat.reduceLeDiff, Nat.reduceLT, Nat.reduceSub, Nat.reduceMul, reduceCtorEq, Int.reduceEq, Int.reduceLT, Int.reduceLE, Int.reduceAdd, Int.reduceSub, Int.reduceNeg, Int.reduceToNat, undef, Value.cells, axL, get1 hb, hheld, ho]; rfl) rfl ?_)
            | (with_reducible refine cond_t ?_ ?_; · simp only [Ax.ev, Ax.look, reduceIte, Nat.reduceEqDiff])
            | (with_reducible refine cond_f ?_ ?_; · simp only [Ax.ev, Ax.look, reduceIte, Nat.reduceEqDiff])
            | (with_reducible refine is_rp ?_; first | refine r_postR rfl ?_ | refine r_postR (by simp only [Ax.result, Ax.resVs, Ax.resV, R10, Ax.look, sizeN, mkV, Nat.reduceEqDiff, reduceIte, axL, get1 hb, hheld, ho]; rfl) ?_)
            | (with_reducible refine is_np ?_; first | refine n_postR rfl ?_ | refine n_postR (by simp only [Ax.result, Ax.resVs, Ax.resV, R10, Ax.look, sizeN, mkV, Nat.reduceEqDiff, reduceIte, axL, get1 hb, hheld, ho]; rfl) ?_)
            | (first | with_reducible refine is_wd ?_ | with_reducible refine dk_wd ?_); refine go_dt _ (by simp only [Ax.runDK, Ax.runDT, Ax.runDops, Ax.run1d, Ax.recs, Ax.okPair, Ax.idsE, Ax.idsV, AOp.mems, AOp.isWrite, DRec.none, axD, Ax.runK, Ax.runOps, Ax.run1, Ax.wantA, Ax.step, Ax.ev, Ax.evs, Ax.evo, Ax.evp, Ax.look, Ax.putE, Ax.keepE, Ax.argsE, Ax.extr, Ax.binV, Ax.intBin, Ax.unV, Ax.addOff, Ax.sizeN, Ax.mkV, Ax.okV, reduceIte, Nat.reduceEqDiff, Nat.reduceAdd, Nat.reduceLeDiff, Nat.reduceLT, Nat.reduceSub, Nat.reduceMul, reduceCtorEq, Int.reduceEq, Int.reduceLT, Int.reduceLE, Int.reduceAdd, Int.reduceSub, Int.reduceNeg, Int.reduceToNat, undef, Value.cells, axL, get1 hb, hheld, ho]; rfl) rfl ?_
            | (with_reducible first | refine end_reg (Ev.mono _ _) ?_ | refine end_dreg (Ev.mono _ _) ?_ | refine end_cond (Ev.mono _ _) ?_ | refine end_block (Ev.mono _ _) ?_ | refine end_loop (Ev.mono _ _) ?_))
        exact hfin
    · have hheld : m.held = true := by cases h : m.held; exact absurd (.inl h) hno; rfl
      have ho : m.owner = task := by
        by_cases h : m.owner = task
        · exact h
        · exact absurd (.inr h) hno
      obtain ⟨ps, hps, H2⟩ := RoundA.open' (H1.pick 2 [1, 0] rfl)
      have hlr : ∀ S, lenV .sl S rv = some (.int .i64 m.rows.length) := by
        have := SlT.len H2
        rw [show ps.length = m.rows.length from by rw [hps]; simp] at this
        exact this
      clear H2 hps
      by_cases hr0 : m.rows = []
      · have e : giveM m task = (⟨false, 0, 0, 0, []⟩, 0, false, 0) := by simp only [giveM]; rw [if_neg hno, if_pos hr0]
        have hl0 : (m.rows.length : Int) = 0 := by rw [hr0]; rfl
        rw [e] at hqq
        have H3 := H1.setc (pre ++ lockC ⟨false, 0, 0, 0, []⟩ (.slice none 0 0) ++ post)
        have h4 : St R (RoundA (.slice none 0 0) [] :: pts b (pre ++ lockC ⟨false, 0, 0, 0, []⟩ (.slice none 0 0) ++ post) :: G') (S.set b (some (.cells false (pre ++ lockC ⟨false, 0, 0, 0, []⟩ (.slice none 0 0) ++ post)))) := by
          have h5 := SlT.nil (α := RowP) (H3.pick 2 [0] rfl)
          exact RoundA.close (ps := []) h5
        have hfin := hqq _ (back ⟨false, 0, 0, 0, []⟩ _ _ h4.swap)
        unfold lockC at hfin
        repeat' (first
            | (with_reducible first | refine go_assoc ?_ (Ev.mono _ _) | refine go_skip ?_ | refine go_fin ?_ | refine go_ret ?_ | refine go_ret0 ?_ | refine go_exit ?_ | refine go_exit0 ?_ | refine go_block ?_ | refine n_then ?_ | refine x_then ?_ | refine r_then ?_ | refine n_block ?_ | refine r_block ?_ | refine x_block ?_ | refine x_block_ne ?_ (by decide))
            | (with_reducible refine is_k ?_; refine go_k _ (by simp only [Ax.runK, Ax.runOps, Ax.run1, Ax.wantA, Ax.step, Ax.ev, Ax.evs, Ax.evo, Ax.evp, Ax.look, Ax.putE, Ax.keepE, Ax.argsE, Ax.extr, Ax.binV, Ax.intBin, Ax.unV, Ax.addOff, Ax.sizeN, Ax.mkV, Ax.okV, reduceIte, Nat.reduceEqDiff, Nat.reduceAdd, Nat.reduceLeDiff, Nat.reduceLT, Nat.reduceSub, Nat.reduceMul, reduceCtorEq, Int.reduceEq, Int.reduceLT, Int.reduceLE, Int.reduceAdd, Int.reduceSub, Int.reduceNeg, Int.reduceToNat, undef, Value.cells, axL, get1 hb, hheld, ho, hlr, hl0, setMidAll hb]; rfl) rfl ?_)
            | (with_reducible refine cond_t ?_ ?_; · simp only [Ax.ev, Ax.look, reduceIte, Nat.reduceEqDiff])
            | (with_reducible refine cond_f ?_ ?_; · simp only [Ax.ev, Ax.look, reduceIte, Nat.reduceEqDiff])
            | (with_reducible refine is_rp ?_; first | refine r_postR rfl ?_ | refine r_postR (by simp only [Ax.result, Ax.resVs, Ax.resV, R10, Ax.look, sizeN, mkV, Nat.reduceEqDiff, reduceIte, axL, get1 hb, hheld, ho, hlr, hl0, setMidAll hb]; rfl) ?_)
            | (with_reducible refine is_np ?_; first | refine n_postR rfl ?_ | refine n_postR (by simp only [Ax.result, Ax.resVs, Ax.resV, R10, Ax.look, sizeN, mkV, Nat.reduceEqDiff, reduceIte, axL, get1 hb, hheld, ho, hlr, hl0, setMidAll hb]; rfl) ?_)
            | (first | with_reducible refine is_wd ?_ | with_reducible refine dk_wd ?_); refine go_dt _ (by simp only [Ax.runDK, Ax.runDT, Ax.runDops, Ax.run1d, Ax.recs, Ax.okPair, Ax.idsE, Ax.idsV, AOp.mems, AOp.isWrite, DRec.none, axD, Ax.runK, Ax.runOps, Ax.run1, Ax.wantA, Ax.step, Ax.ev, Ax.evs, Ax.evo, Ax.evp, Ax.look, Ax.putE, Ax.keepE, Ax.argsE, Ax.extr, Ax.binV, Ax.intBin, Ax.unV, Ax.addOff, Ax.sizeN, Ax.mkV, Ax.okV, reduceIte, Nat.reduceEqDiff, Nat.reduceAdd, Nat.reduceLeDiff, Nat.reduceLT, Nat.reduceSub, Nat.reduceMul, reduceCtorEq, Int.reduceEq, Int.reduceLT, Int.reduceLE, Int.reduceAdd, Int.reduceSub, Int.reduceNeg, Int.reduceToNat, undef, Value.cells, axL, get1 hb, hheld, ho, hlr, hl0, setMidAll hb]; rfl) rfl ?_
            | (with_reducible first | refine end_reg (Ev.mono _ _) ?_ | refine end_dreg (Ev.mono _ _) ?_ | refine end_cond (Ev.mono _ _) ?_ | refine end_block (Ev.mono _ _) ?_ | refine end_loop (Ev.mono _ _) ?_))
        exact hfin
      · have e : giveM m task = (passM m, (passM m).owner, true, 0) := by simp only [giveM]; rw [if_neg hno, if_neg hr0]
        have hl0 : ¬ (m.rows.length : Int) = 0 := by
          intro h
          exact hr0 (List.eq_nil_of_length_eq_zero (by omega))
        rw [e] at hqq
        dsimp only at hqq
        repeat' (first
            | (with_reducible first | refine go_assoc ?_ (Ev.mono _ _) | refine go_skip ?_ | refine go_fin ?_ | refine go_ret ?_ | refine go_ret0 ?_ | refine go_exit ?_ | refine go_exit0 ?_ | refine go_block ?_ | refine n_then ?_ | refine x_then ?_ | refine r_then ?_ | refine n_block ?_ | refine r_block ?_ | refine x_block ?_ | refine x_block_ne ?_ (by decide))
            | (with_reducible refine is_k ?_; refine go_k _ (by simp only [Ax.runK, Ax.runOps, Ax.run1, Ax.wantA, Ax.step, Ax.ev, Ax.evs, Ax.evo, Ax.evp, Ax.look, Ax.putE, Ax.keepE, Ax.argsE, Ax.extr, Ax.binV, Ax.intBin, Ax.unV, Ax.addOff, Ax.sizeN, Ax.mkV, Ax.okV, reduceIte, Nat.reduceEqDiff, Nat.reduceAdd, Nat.reduceLeDiff, Nat.reduceLT, Nat.reduceSub, Nat.reduceMul, reduceCtorEq, Int.reduceEq, Int.reduceLT, Int.reduceLE, Int.reduceAdd, Int.reduceSub, Int.reduceNeg, Int.reduceToNat, undef, Value.cells, axL, get1 hb, hheld, ho, hlr, hl0]; rfl) rfl ?_)
            | (with_reducible refine cond_t ?_ ?_; · simp only [Ax.ev, Ax.look, reduceIte, Nat.reduceEqDiff])
            | (with_reducible refine cond_f ?_ ?_; · simp only [Ax.ev, Ax.look, reduceIte, Nat.reduceEqDiff])
            | (with_reducible refine is_rp ?_; first | refine r_postR rfl ?_ | refine r_postR (by simp only [Ax.result, Ax.resVs, Ax.resV, R10, Ax.look, sizeN, mkV, Nat.reduceEqDiff, reduceIte, axL, get1 hb, hheld, ho, hlr, hl0]; rfl) ?_)
            | (with_reducible refine is_np ?_; first | refine n_postR rfl ?_ | refine n_postR (by simp only [Ax.result, Ax.resVs, Ax.resV, R10, Ax.look, sizeN, mkV, Nat.reduceEqDiff, reduceIte, axL, get1 hb, hheld, ho, hlr, hl0]; rfl) ?_)
            | (first | with_reducible refine is_wd ?_ | with_reducible refine dk_wd ?_); refine go_dt _ (by simp only [Ax.runDK, Ax.runDT, Ax.runDops, Ax.run1d, Ax.recs, Ax.okPair, Ax.idsE, Ax.idsV, AOp.mems, AOp.isWrite, DRec.none, axD, Ax.runK, Ax.runOps, Ax.run1, Ax.wantA, Ax.step, Ax.ev, Ax.evs, Ax.evo, Ax.evp, Ax.look, Ax.putE, Ax.keepE, Ax.argsE, Ax.extr, Ax.binV, Ax.intBin, Ax.unV, Ax.addOff, Ax.sizeN, Ax.mkV, Ax.okV, reduceIte, Nat.reduceEqDiff, Nat.reduceAdd, Nat.reduceLeDiff, Nat.reduceLT, Nat.reduceSub, Nat.reduceMul, reduceCtorEq, Int.reduceEq, Int.reduceLT, Int.reduceLE, Int.reduceAdd, Int.reduceSub, Int.reduceNeg, Int.reduceToNat, undef, Value.cells, axL, get1 hb, hheld, ho, hlr, hl0]; rfl) rfl ?_
            | (with_reducible first | refine end_reg (Ev.mono _ _) ?_ | refine end_dreg (Ev.mono _ _) ?_ | refine end_cond (Ev.mono _ _) ?_ | refine end_block (Ev.mono _ _) ?_ | refine end_loop (Ev.mono _ _) ?_))
        repeat' (with_reducible first | refine go_assoc ?_ (Ev.mono _ _) | refine go_skip ?_ | refine go_block ?_ | refine end_reg (Ev.mono _ _) ?_)
        refine go_callC _ (by simp only [Ax.runC, AOp.isCall, Ax.runK, Ax.runOps, Ax.run1, Ax.wantA, Ax.step, Ax.ev, Ax.evs, Ax.evo, Ax.evp, Ax.look, Ax.putE, Ax.keepE, Ax.argsE, Ax.extr, Ax.binV, Ax.intBin, Ax.unV, Ax.addOff, Ax.sizeN, Ax.mkV, Ax.okV, reduceIte, Nat.reduceEqDiff, Nat.reduceAdd, Nat.reduceLeDiff, Nat.reduceLT, Nat.reduceSub, Nat.reduceMul, reduceCtorEq, Int.reduceEq, Int.reduceLT, Int.reduceLE, Int.reduceAdd, Int.reduceSub, Int.reduceNeg, Int.reduceToNat, undef, Value.cells, axL, get1 hb]; rfl) rfl rfl (by simp only [Ax.wantA, Ax.look, reduceIte, Nat.reduceEqDiff, bq_t, bq_f, Bool.not_true, Bool.not_false]; try rfl) rfl (by simp only [Ax.runK, Ax.runOps, Ax.run1, Ax.wantA, Ax.step, Ax.ev, Ax.evs, Ax.evo, Ax.evp, Ax.look, Ax.putE, Ax.keepE, Ax.argsE, Ax.extr, Ax.binV, Ax.intBin, Ax.unV, Ax.addOff, Ax.sizeN, Ax.mkV, Ax.okV, reduceIte, Nat.reduceEqDiff, Nat.reduceAdd, Nat.reduceLeDiff, Nat.reduceLT, Nat.reduceSub, Nat.reduceMul, reduceCtorEq, Int.reduceEq, Int.reduceLT, Int.reduceLE, Int.reduceAdd, Int.reduceSub, Int.reduceNeg, Int.reduceToNat, undef, Value.cells, axL, get1 hb]; try rfl) ?_
        refine row_spec X H1 hinv.small m.socket (fun S1 H3 => ?_)
        have hb2 := H3.pget
        unfold lockC at hb2
        obtain ⟨ix, hix⟩ : ∃ ix, ix = idxL (fun r => decide (r.1 = m.socket)) m.rows 0 := ⟨_, rfl⟩
        rw [← hix]
        by_cases hst : staysM m
        · have hst2 := hst
          unfold staysM at hst2
          rw [← hix] at hst2
          obtain ⟨j, hj⟩ : ∃ j : Nat, ix = j := ⟨ix.toNat, by omega⟩
          have hjl : j < m.rows.length := by
            rcases idxL_lt (p := fun r => decide (r.1 = m.socket)) (l := m.rows) (k := 0) with h | h
            · rw [← hix] at h; omega
            · rw [← hix] at h; omega
          have hoI : ownI m = j := by unfold ownI; rw [← hix, hj]; simp
          rw [hj]
          have c0 : (0 : Int) ≤ (j : Int) := by omega
          have hpm : passM m = { m with passes := m.passes + 1, owner := headAt m.rows j, rows := cutRow m.rows j } := by unfold passM; rw [if_pos hst, hoI]
          rw [hpm] at hqq
          dsimp only at hqq
          have H4 := H3.setc (pre ++ lockC { m with passes := m.passes + 1 } rv ++ post)
          obtain ⟨s', t', ts', k1, k2, k3⟩ := cut_first (m := { m with passes := m.passes + 1 }) hjl hinv.full
          dsimp only at k2 k3
          obtain ⟨S2, hS2⟩ : ∃ S2, S2 = S1.set b (some (.cells false (pre ++ lockC { m with passes := m.passes + 1 } rv ++ post))) := ⟨_, rfl⟩
          rw [← hS2] at H4
          unfold lockC at hS2
          dsimp only at hS2
          have fin : ∀ S3, ∀ rv3, St R (pts b (pre ++ lockC (firstM { m with passes := m.passes + 1 } j s' ts') rv3 ++ post) :: RoundA rv3 (firstM { m with passes := m.passes + 1 } j s' ts').rows :: G') S3 →
              S3.h b = some (.cells false (pre ++ [.bool m.held, .int .i64 m.owner, .int .i64 m.socket, .int .i64 (m.passes + 1), rv3] ++ post)) ∧
              Q (.tuple #[.int .i64 t', .bool true, .int .i64 0]) (S3.set b (some (.cells false (pre ++ [.bool m.held, .int .i64 t', .int .i64 m.socket, .int .i64 (m.passes + 1), rv3] ++ post)))) := by
            intro S3 rv3 h
            refine ⟨h.pget, ?_⟩
            have h5 := h.setc (pre ++ lockC { m with passes := m.passes + 1, owner := t', rows := cutRow m.rows j } rv3 ++ post)
            rw [k2] at h5
            have := hqq _ (by rw [k3]; exact back _ _ _ h5)
            rw [k3] at this
            exact this
          rcases (show m.passes < 3 ∨ (¬ m.passes < 3 ∧ (m.rows.length : Int) = 1) from by omega) with hp | ⟨hp, hp2⟩
          · repeat' (first
                | (with_reducible first | refine go_assoc ?_ (Ev.mono _ _) | refine go_skip ?_ | refine go_fin ?_ | refine go_ret ?_ | refine go_ret0 ?_ | refine go_exit ?_ | refine go_exit0 ?_ | refine go_block ?_ | refine n_then ?_ | refine x_then ?_ | refine r_then ?_ | refine n_block ?_ | refine r_block ?_ | refine x_block ?_ | refine x_block_ne ?_ (by decide))
                | (with_reducible refine is_k ?_; refine go_k _ (by simp only [Ax.runK, Ax.runOps, Ax.run1, Ax.wantA, Ax.step, Ax.ev, Ax.evs, Ax.evo, Ax.evp, Ax.look, Ax.putE, Ax.keepE, Ax.argsE, Ax.extr, Ax.binV, Ax.intBin, Ax.unV, Ax.addOff, Ax.sizeN, Ax.mkV, Ax.okV, reduceIte, Nat.reduceEqDiff, Nat.reduceAdd, Nat.reduceLeDiff, Nat.reduceLT, Nat.reduceSub, Nat.reduceMul, reduceCtorEq, Int.reduceEq, Int.reduceLT, Int.reduceLE, Int.reduceAdd, Int.reduceSub, Int.reduceNeg, Int.reduceToNat, undef, Value.cells, axL, c0, hp, get1 hb2, set1 hb2, wrapI hinv.pass, ← hS2]; rfl) rfl ?_)
                | (with_reducible refine cond_t ?_ ?_; · simp only [Ax.ev, Ax.look, reduceIte, Nat.reduceEqDiff])
                | (with_reducible refine cond_f ?_ ?_; · simp only [Ax.ev, Ax.look, reduceIte, Nat.reduceEqDiff])
                | (with_reducible refine is_rp ?_; first | refine r_postR rfl ?_ | refine r_postR (by simp only [Ax.result, Ax.resVs, Ax.resV, R10, Ax.look, sizeN, mkV, Nat.reduceEqDiff, reduceIte, axL, c0, hp, get1 hb2, set1 hb2, wrapI hinv.pass, ← hS2]; rfl) ?_)
                | (with_reducible refine is_np ?_; first | refine n_postR rfl ?_ | refine n_postR (by simp only [Ax.result, Ax.resVs, Ax.resV, R10, Ax.look, sizeN, mkV, Nat.reduceEqDiff, reduceIte, axL, c0, hp, get1 hb2, set1 hb2, wrapI hinv.pass, ← hS2]; rfl) ?_)
                | (first | with_reducible refine is_wd ?_ | with_reducible refine dk_wd ?_); refine go_dt _ (by simp only [Ax.runDK, Ax.runDT, Ax.runDops, Ax.run1d, Ax.recs, Ax.okPair, Ax.idsE, Ax.idsV, AOp.mems, AOp.isWrite, DRec.none, axD, Ax.runK, Ax.runOps, Ax.run1, Ax.wantA, Ax.step, Ax.ev, Ax.evs, Ax.evo, Ax.evp, Ax.look, Ax.putE, Ax.keepE, Ax.argsE, Ax.extr, Ax.binV, Ax.intBin, Ax.unV, Ax.addOff, Ax.sizeN, Ax.mkV, Ax.okV, reduceIte, Nat.reduceEqDiff, Nat.reduceAdd, Nat.reduceLeDiff, Nat.reduceLT, Nat.reduceSub, Nat.reduceMul, reduceCtorEq, Int.reduceEq, Int.reduceLT, Int.reduceLE, Int.reduceAdd, Int.reduceSub, Int.reduceNeg, Int.reduceToNat, undef, Value.cells, axL, c0, hp, get1 hb2, set1 hb2, wrapI hinv.pass, ← hS2]; rfl) rfl ?_
                | (with_reducible first | refine end_reg (Ev.mono _ _) ?_ | refine end_dreg (Ev.mono _ _) ?_ | refine end_cond (Ev.mono _ _) ?_ | refine end_block (Ev.mono _ _) ?_ | refine end_loop (Ev.mono _ _) ?_))
            repeat' (with_reducible first | refine go_assoc ?_ (Ev.mono _ _) | refine go_skip ?_ | refine go_block ?_ | refine end_reg (Ev.mono _ _) ?_)
            refine go_callC _ (by simp only [Ax.runC, AOp.isCall, Ax.runK, Ax.runOps, Ax.run1, Ax.wantA, Ax.step, Ax.ev, Ax.evs, Ax.evo, Ax.evp, Ax.look, Ax.putE, Ax.keepE, Ax.argsE, Ax.extr, Ax.binV, Ax.intBin, Ax.unV, Ax.addOff, Ax.sizeN, Ax.mkV, Ax.okV, reduceIte, Nat.reduceEqDiff, Nat.reduceAdd, Nat.reduceLeDiff, Nat.reduceLT, Nat.reduceSub, Nat.reduceMul, reduceCtorEq, Int.reduceEq, Int.reduceLT, Int.reduceLE, Int.reduceAdd, Int.reduceSub, Int.reduceNeg, Int.reduceToNat, undef, Value.cells, axL]; rfl) rfl rfl (by simp only [Ax.wantA, Ax.look, reduceIte, Nat.reduceEqDiff, bq_t, bq_f, Bool.not_true, Bool.not_false]; try rfl) rfl (by simp only [Ax.runK, Ax.runOps, Ax.run1, Ax.wantA, Ax.step, Ax.ev, Ax.evs, Ax.evo, Ax.evp, Ax.look, Ax.putE, Ax.keepE, Ax.argsE, Ax.extr, Ax.binV, Ax.intBin, Ax.unV, Ax.addOff, Ax.sizeN, Ax.mkV, Ax.okV, reduceIte, Nat.reduceEqDiff, Nat.reduceAdd, Nat.reduceLeDiff, Nat.reduceLT, Nat.reduceSub, Nat.reduceMul, reduceCtorEq, Int.reduceEq, Int.reduceLT, Int.reduceLE, Int.reduceAdd, Int.reduceSub, Int.reduceNeg, Int.reduceToNat, undef, Value.cells, axL]; try rfl) ?_
            refine first_spec X H4 hinv.small hjl k1 (fun S3 rv3 H5 => ?_)
            obtain ⟨hb3, hfin⟩ := fin S3 rv3 H5
            repeat' (first
                | (with_reducible first | refine go_assoc ?_ (Ev.mono _ _) | refine go_skip ?_ | refine go_fin ?_ | refine go_ret ?_ | refine go_ret0 ?_ | refine go_exit ?_ | refine go_exit0 ?_ | refine go_block ?_ | refine n_then ?_ | refine x_then ?_ | refine r_then ?_ | refine n_block ?_ | refine r_block ?_ | refine x_block ?_ | refine x_block_ne ?_ (by decide))
                | (with_reducible refine is_k ?_; refine go_k _ (by simp only [Ax.runK, Ax.runOps, Ax.run1, Ax.wantA, Ax.step, Ax.ev, Ax.evs, Ax.evo, Ax.evp, Ax.look, Ax.putE, Ax.keepE, Ax.argsE, Ax.extr, Ax.binV, Ax.intBin, Ax.unV, Ax.addOff, Ax.sizeN, Ax.mkV, Ax.okV, reduceIte, Nat.reduceEqDiff, Nat.reduceAdd, Nat.reduceLeDiff, Nat.reduceLT, Nat.reduceSub, Nat.reduceMul, reduceCtorEq, Int.reduceEq, Int.reduceLT, Int.reduceLE, Int.reduceAdd, Int.reduceSub, Int.reduceNeg, Int.reduceToNat, undef, Value.cells, axL, get1 hb3, set1 hb3]; rfl) rfl ?_)
                | (with_reducible refine cond_t ?_ ?_; · simp only [Ax.ev, Ax.look, reduceIte, Nat.reduceEqDiff])
                | (with_reducible refine cond_f ?_ ?_; · simp only [Ax.ev, Ax.look, reduceIte, Nat.reduceEqDiff])
                | (with_reducible refine is_rp ?_; first | refine r_postR rfl ?_ | refine r_postR (by simp only [Ax.result, Ax.resVs, Ax.resV, R10, Ax.look, sizeN, mkV, Nat.reduceEqDiff, reduceIte, axL, get1 hb3, set1 hb3]; rfl) ?_)
                | (with_reducible refine is_np ?_; first | refine n_postR rfl ?_ | refine n_postR (by simp only [Ax.result, Ax.resVs, Ax.resV, R10, Ax.look, sizeN, mkV, Nat.reduceEqDiff, reduceIte, axL, get1 hb3, set1 hb3]; rfl) ?_)
                | (first | with_reducible refine is_wd ?_ | with_reducible refine dk_wd ?_); refine go_dt _ (by simp only [Ax.runDK, Ax.runDT, Ax.runDops, Ax.run1d, Ax.recs, Ax.okPair, Ax.idsE, Ax.idsV, AOp.mems, AOp.isWrite, DRec.none, axD, Ax.runK, Ax.runOps, Ax.run1, Ax.wantA, Ax.step, Ax.ev, Ax.evs, Ax.evo, Ax.evp, Ax.look, Ax.putE, Ax.keepE, Ax.argsE, Ax.extr, Ax.binV, Ax.intBin, Ax.unV, Ax.addOff, Ax.sizeN, Ax.mkV, Ax.okV, reduceIte, Nat.reduceEqDiff, Nat.reduceAdd, Nat.reduceLeDiff, Nat.reduceLT, Nat.reduceSub, Nat.reduceMul, reduceCtorEq, Int.reduceEq, Int.reduceLT, Int.reduceLE, Int.reduceAdd, Int.reduceSub, Int.reduceNeg, Int.reduceToNat, undef, Value.cells, axL, get1 hb3, set1 hb3]; rfl) rfl ?_
                | (with_reducible first | refine end_reg (Ev.mono _ _) ?_ | refine end_dreg (Ev.mono _ _) ?_ | refine end_cond (Ev.mono _ _) ?_ | refine end_block (Ev.mono _ _) ?_ | refine end_loop (Ev.mono _ _) ?_))
            exact hfin
          · repeat' (first
                | (with_reducible first | refine go_assoc ?_ (Ev.mono _ _) | refine go_skip ?_ | refine go_fin ?_ | refine go_ret ?_ | refine go_ret0 ?_ | refine go_exit ?_ | refine go_exit0 ?_ | refine go_block ?_ | refine n_then ?_ | refine x_then ?_ | refine r_then ?_ | refine n_block ?_ | refine r_block ?_ | refine x_block ?_ | refine x_block_ne ?_ (by decide))
                | (with_reducible refine is_k ?_; refine go_k _ (by simp only [Ax.runK, Ax.runOps, Ax.run1, Ax.wantA, Ax.step, Ax.ev, Ax.evs, Ax.evo, Ax.evp, Ax.look, Ax.putE, Ax.keepE, Ax.argsE, Ax.extr, Ax.binV, Ax.intBin, Ax.unV, Ax.addOff, Ax.sizeN, Ax.mkV, Ax.okV, reduceIte, Nat.reduceEqDiff, Nat.reduceAdd, Nat.reduceLeDiff, Nat.reduceLT, Nat.reduceSub, Nat.reduceMul, reduceCtorEq, Int.reduceEq, Int.reduceLT, Int.reduceLE, Int.reduceAdd, Int.reduceSub, Int.reduceNeg, Int.reduceToNat, undef, Value.cells, axL, c0, hp, hp2, hlr, get1 hb2, set1 hb2, wrapI hinv.pass, ← hS2]; rfl) rfl ?_)
                | (with_reducible refine cond_t ?_ ?_; · simp only [Ax.ev, Ax.look, reduceIte, Nat.reduceEqDiff])
                | (with_reducible refine cond_f ?_ ?_; · simp only [Ax.ev, Ax.look, reduceIte, Nat.reduceEqDiff])
                | (with_reducible refine is_rp ?_; first | refine r_postR rfl ?_ | refine r_postR (by simp only [Ax.result, Ax.resVs, Ax.resV, R10, Ax.look, sizeN, mkV, Nat.reduceEqDiff, reduceIte, axL, c0, hp, hp2, hlr, get1 hb2, set1 hb2, wrapI hinv.pass, ← hS2]; rfl) ?_)
                | (with_reducible refine is_np ?_; first | refine n_postR rfl ?_ | refine n_postR (by simp only [Ax.result, Ax.resVs, Ax.resV, R10, Ax.look, sizeN, mkV, Nat.reduceEqDiff, reduceIte, axL, c0, hp, hp2, hlr, get1 hb2, set1 hb2, wrapI hinv.pass, ← hS2]; rfl) ?_)
                | (first | with_reducible refine is_wd ?_ | with_reducible refine dk_wd ?_); refine go_dt _ (by simp only [Ax.runDK, Ax.runDT, Ax.runDops, Ax.run1d, Ax.recs, Ax.okPair, Ax.idsE, Ax.idsV, AOp.mems, AOp.isWrite, DRec.none, axD, Ax.runK, Ax.runOps, Ax.run1, Ax.wantA, Ax.step, Ax.ev, Ax.evs, Ax.evo, Ax.evp, Ax.look, Ax.putE, Ax.keepE, Ax.argsE, Ax.extr, Ax.binV, Ax.intBin, Ax.unV, Ax.addOff, Ax.sizeN, Ax.mkV, Ax.okV, reduceIte, Nat.reduceEqDiff, Nat.reduceAdd, Nat.reduceLeDiff, Nat.reduceLT, Nat.reduceSub, Nat.reduceMul, reduceCtorEq, Int.reduceEq, Int.reduceLT, Int.reduceLE, Int.reduceAdd, Int.reduceSub, Int.reduceNeg, Int.reduceToNat, undef, Value.cells, axL, c0, hp, hp2, hlr, get1 hb2, set1 hb2, wrapI hinv.pass, ← hS2]; rfl) rfl ?_
                | (with_reducible first | refine end_reg (Ev.mono _ _) ?_ | refine end_dreg (Ev.mono _ _) ?_ | refine end_cond (Ev.mono _ _) ?_ | refine end_block (Ev.mono _ _) ?_ | refine end_loop (Ev.mono _ _) ?_))
            repeat' (with_reducible first | refine go_assoc ?_ (Ev.mono _ _) | refine go_skip ?_ | refine go_block ?_ | refine end_reg (Ev.mono _ _) ?_)
            refine go_callC _ (by simp only [Ax.runC, AOp.isCall, Ax.runK, Ax.runOps, Ax.run1, Ax.wantA, Ax.step, Ax.ev, Ax.evs, Ax.evo, Ax.evp, Ax.look, Ax.putE, Ax.keepE, Ax.argsE, Ax.extr, Ax.binV, Ax.intBin, Ax.unV, Ax.addOff, Ax.sizeN, Ax.mkV, Ax.okV, reduceIte, Nat.reduceEqDiff, Nat.reduceAdd, Nat.reduceLeDiff, Nat.reduceLT, Nat.reduceSub, Nat.reduceMul, reduceCtorEq, Int.reduceEq, Int.reduceLT, Int.reduceLE, Int.reduceAdd, Int.reduceSub, Int.reduceNeg, Int.reduceToNat, undef, Value.cells, axL]; rfl) rfl rfl (by simp only [Ax.wantA, Ax.look, reduceIte, Nat.reduceEqDiff, bq_t, bq_f, Bool.not_true, Bool.not_false]; try rfl) rfl (by simp only [Ax.runK, Ax.runOps, Ax.run1, Ax.wantA, Ax.step, Ax.ev, Ax.evs, Ax.evo, Ax.evp, Ax.look, Ax.putE, Ax.keepE, Ax.argsE, Ax.extr, Ax.binV, Ax.intBin, Ax.unV, Ax.addOff, Ax.sizeN, Ax.mkV, Ax.okV, reduceIte, Nat.reduceEqDiff, Nat.reduceAdd, Nat.reduceLeDiff, Nat.reduceLT, Nat.reduceSub, Nat.reduceMul, reduceCtorEq, Int.reduceEq, Int.reduceLT, Int.reduceLE, Int.reduceAdd, Int.reduceSub, Int.reduceNeg, Int.reduceToNat, undef, Value.cells, axL]; try rfl) ?_
            refine first_spec X H4 hinv.small hjl k1 (fun S3 rv3 H5 => ?_)
            obtain ⟨hb3, hfin⟩ := fin S3 rv3 H5
            repeat' (first
                | (with_reducible first | refine go_assoc ?_ (Ev.mono _ _) | refine go_skip ?_ | refine go_fin ?_ | refine go_ret ?_ | refine go_ret0 ?_ | refine go_exit ?_ | refine go_exit0 ?_ | refine go_block ?_ | refine n_then ?_ | refine x_then ?_ | refine r_then ?_ | refine n_block ?_ | refine r_block ?_ | refine x_block ?_ | refine x_block_ne ?_ (by decide))
                | (with_reducible refine is_k ?_; refine go_k _ (by simp only [Ax.runK, Ax.runOps, Ax.run1, Ax.wantA, Ax.step, Ax.ev, Ax.evs, Ax.evo, Ax.evp, Ax.look, Ax.putE, Ax.keepE, Ax.argsE, Ax.extr, Ax.binV, Ax.intBin, Ax.unV, Ax.addOff, Ax.sizeN, Ax.mkV, Ax.okV, reduceIte, Nat.reduceEqDiff, Nat.reduceAdd, Nat.reduceLeDiff, Nat.reduceLT, Nat.reduceSub, Nat.reduceMul, reduceCtorEq, Int.reduceEq, Int.reduceLT, Int.reduceLE, Int.reduceAdd, Int.reduceSub, Int.reduceNeg, Int.reduceToNat, undef, Value.cells, axL, get1 hb3, set1 hb3]; rfl) rfl ?_)
                | (with_reducible refine cond_t ?_ ?_; · simp only [Ax.ev, Ax.look, reduceIte, Nat.reduceEqDiff])
                | (with_reducible refine cond_f ?_ ?_; · simp only [Ax.ev, Ax.look, reduceIte, Nat.reduceEqDiff])
                | (with_reducible refine is_rp ?_; first | refine r_postR rfl ?_ | refine r_postR (by simp only [Ax.result, Ax.resVs, Ax.resV, R10, Ax.look, sizeN, mkV, Nat.reduceEqDiff, reduceIte, axL, get1 hb3, set1 hb3]; rfl) ?_)
                | (with_reducible refine is_np ?_; first | refine n_postR rfl ?_ | refine n_postR (by simp only [Ax.result, Ax.resVs, Ax.resV, R10, Ax.look, sizeN, mkV, Nat.reduceEqDiff, reduceIte, axL, get1 hb3, set1 hb3]; rfl) ?_)
                | (first | with_reducible refine is_wd ?_ | with_reducible refine dk_wd ?_); refine go_dt _ (by simp only [Ax.runDK, Ax.runDT, Ax.runDops, Ax.run1d, Ax.recs, Ax.okPair, Ax.idsE, Ax.idsV, AOp.mems, AOp.isWrite, DRec.none, axD, Ax.runK, Ax.runOps, Ax.run1, Ax.wantA, Ax.step, Ax.ev, Ax.evs, Ax.evo, Ax.evp, Ax.look, Ax.putE, Ax.keepE, Ax.argsE, Ax.extr, Ax.binV, Ax.intBin, Ax.unV, Ax.addOff, Ax.sizeN, Ax.mkV, Ax.okV, reduceIte, Nat.reduceEqDiff, Nat.reduceAdd, Nat.reduceLeDiff, Nat.reduceLT, Nat.reduceSub, Nat.reduceMul, reduceCtorEq, Int.reduceEq, Int.reduceLT, Int.reduceLE, Int.reduceAdd, Int.reduceSub, Int.reduceNeg, Int.reduceToNat, undef, Value.cells, axL, get1 hb3, set1 hb3]; rfl) rfl ?_
                | (with_reducible first | refine end_reg (Ev.mono _ _) ?_ | refine end_dreg (Ev.mono _ _) ?_ | refine end_cond (Ev.mono _ _) ?_ | refine end_block (Ev.mono _ _) ?_ | refine end_loop (Ev.mono _ _) ?_))
            exact hfin
        · have hpm : passM m = { awayM m with owner := headAt m.rows (awayI m) } := by unfold passM; rw [if_neg hst]
          rw [hpm] at hqq
          dsimp only at hqq
          have fin : ∀ S3, ∀ rv3, St R (pts b (pre ++ lockC (awayM m) rv3 ++ post) :: RoundA rv3 (awayM m).rows :: G') S3 →
              S3.h b = some (.cells false (pre ++ [.bool (awayM m).held, .int .i64 (awayM m).owner, .int .i64 (awayM m).socket, .int .i64 (awayM m).passes, rv3] ++ post)) ∧
              Q (.tuple #[.int .i64 (headAt m.rows (awayI m)), .bool true, .int .i64 0]) (S3.set b (some (.cells false (pre ++ [.bool (awayM m).held, .int .i64 (headAt m.rows (awayI m)), .int .i64 (awayM m).socket, .int .i64 (awayM m).passes, rv3] ++ post)))) := by
            intro S3 rv3 h
            exact ⟨h.pget, hqq _ (back _ _ _ (h.setc (pre ++ lockC { awayM m with owner := headAt m.rows (awayI m) } rv3 ++ post)))⟩
          have hns := hst
          unfold staysM at hns
          rw [← hix] at hns
          rcases (show ¬ 0 ≤ ix ∨ (0 ≤ ix ∧ ¬ m.passes < 3 ∧ ¬ (m.rows.length : Int) = 1) from by omega) with hp | ⟨hp, hp2, hp3⟩
          · repeat' (first
                | (with_reducible first | refine go_assoc ?_ (Ev.mono _ _) | refine go_skip ?_ | refine go_fin ?_ | refine go_ret ?_ | refine go_ret0 ?_ | refine go_exit ?_ | refine go_exit0 ?_ | refine go_block ?_ | refine n_then ?_ | refine x_then ?_ | refine r_then ?_ | refine n_block ?_ | refine r_block ?_ | refine x_block ?_ | refine x_block_ne ?_ (by decide))
                | (with_reducible refine is_k ?_; refine go_k _ (by simp only [Ax.runK, Ax.runOps, Ax.run1, Ax.wantA, Ax.step, Ax.ev, Ax.evs, Ax.evo, Ax.evp, Ax.look, Ax.putE, Ax.keepE, Ax.argsE, Ax.extr, Ax.binV, Ax.intBin, Ax.unV, Ax.addOff, Ax.sizeN, Ax.mkV, Ax.okV, reduceIte, Nat.reduceEqDiff, Nat.reduceAdd, Nat.reduceLeDiff, Nat.reduceLT, Nat.reduceSub, Nat.reduceMul, reduceCtorEq, Int.reduceEq, Int.reduceLT, Int.reduceLE, Int.reduceAdd, Int.reduceSub, Int.reduceNeg, Int.reduceToNat, undef, Value.cells, axL, hp, get1 hb2]; rfl) rfl ?_)
                | (with_reducible refine cond_t ?_ ?_; · simp only [Ax.ev, Ax.look, reduceIte, Nat.reduceEqDiff])
                | (with_reducible refine cond_f ?_ ?_; · simp only [Ax.ev, Ax.look, reduceIte, Nat.reduceEqDiff])
                | (with_reducible refine is_rp ?_; first | refine r_postR rfl ?_ | refine r_postR (by simp only [Ax.result, Ax.resVs, Ax.resV, R10, Ax.look, sizeN, mkV, Nat.reduceEqDiff, reduceIte, axL, hp, get1 hb2]; rfl) ?_)
                | (with_reducible refine is_np ?_; first | refine n_postR rfl ?_ | refine n_postR (by simp only [Ax.result, Ax.resVs, Ax.resV, R10, Ax.look, sizeN, mkV, Nat.reduceEqDiff, reduceIte, axL, hp, get1 hb2]; rfl) ?_)
                | (first | with_reducible refine is_wd ?_ | with_reducible refine dk_wd ?_); refine go_dt _ (by simp only [Ax.runDK, Ax.runDT, Ax.runDops, Ax.run1d, Ax.recs, Ax.okPair, Ax.idsE, Ax.idsV, AOp.mems, AOp.isWrite, DRec.none, axD, Ax.runK, Ax.runOps, Ax.run1, Ax.wantA, Ax.step, Ax.ev, Ax.evs, Ax.evo, Ax.evp, Ax.look, Ax.putE, Ax.keepE, Ax.argsE, Ax.extr, Ax.binV, Ax.intBin, Ax.unV, Ax.addOff, Ax.sizeN, Ax.mkV, Ax.okV, reduceIte, Nat.reduceEqDiff, Nat.reduceAdd, Nat.reduceLeDiff, Nat.reduceLT, Nat.reduceSub, Nat.reduceMul, reduceCtorEq, Int.reduceEq, Int.reduceLT, Int.reduceLE, Int.reduceAdd, Int.reduceSub, Int.reduceNeg, Int.reduceToNat, undef, Value.cells, axL, hp, get1 hb2]; rfl) rfl ?_
                | (with_reducible first | refine end_reg (Ev.mono _ _) ?_ | refine end_dreg (Ev.mono _ _) ?_ | refine end_cond (Ev.mono _ _) ?_ | refine end_block (Ev.mono _ _) ?_ | refine end_loop (Ev.mono _ _) ?_))
            repeat' (with_reducible first | refine go_assoc ?_ (Ev.mono _ _) | refine go_skip ?_ | refine go_block ?_ | refine end_reg (Ev.mono _ _) ?_)
            refine go_callC _ (by simp only [Ax.runC, AOp.isCall, Ax.runK, Ax.runOps, Ax.run1, Ax.wantA, Ax.step, Ax.ev, Ax.evs, Ax.evo, Ax.evp, Ax.look, Ax.putE, Ax.keepE, Ax.argsE, Ax.extr, Ax.binV, Ax.intBin, Ax.unV, Ax.addOff, Ax.sizeN, Ax.mkV, Ax.okV, reduceIte, Nat.reduceEqDiff, Nat.reduceAdd, Nat.reduceLeDiff, Nat.reduceLT, Nat.reduceSub, Nat.reduceMul, reduceCtorEq, Int.reduceEq, Int.reduceLT, Int.reduceLE, Int.reduceAdd, Int.reduceSub, Int.reduceNeg, Int.reduceToNat, undef, Value.cells, axL]; rfl) rfl rfl (by simp only [Ax.wantA, Ax.look, reduceIte, Nat.reduceEqDiff, bq_t, bq_f, Bool.not_true, Bool.not_false]; try rfl) rfl (by simp only [Ax.runK, Ax.runOps, Ax.run1, Ax.wantA, Ax.step, Ax.ev, Ax.evs, Ax.evo, Ax.evp, Ax.look, Ax.putE, Ax.keepE, Ax.argsE, Ax.extr, Ax.binV, Ax.intBin, Ax.unV, Ax.addOff, Ax.sizeN, Ax.mkV, Ax.okV, reduceIte, Nat.reduceEqDiff, Nat.reduceAdd, Nat.reduceLeDiff, Nat.reduceLT, Nat.reduceSub, Nat.reduceMul, reduceCtorEq, Int.reduceEq, Int.reduceLT, Int.reduceLE, Int.reduceAdd, Int.reduceSub, Int.reduceNeg, Int.reduceToNat, undef, Value.cells, axL]; try rfl) ?_
            refine away_spec X H3 hinv.small hinv.full (other_row hinv hr0 hst) (fun S3 rv3 H5 => ?_)
            obtain ⟨hb3, hfin⟩ := fin S3 rv3 H5
            repeat' (first
                | (with_reducible first | refine go_assoc ?_ (Ev.mono _ _) | refine go_skip ?_ | refine go_fin ?_ | refine go_ret ?_ | refine go_ret0 ?_ | refine go_exit ?_ | refine go_exit0 ?_ | refine go_block ?_ | refine n_then ?_ | refine x_then ?_ | refine r_then ?_ | refine n_block ?_ | refine r_block ?_ | refine x_block ?_ | refine x_block_ne ?_ (by decide))
                | (with_reducible refine is_k ?_; refine go_k _ (by simp only [Ax.runK, Ax.runOps, Ax.run1, Ax.wantA, Ax.step, Ax.ev, Ax.evs, Ax.evo, Ax.evp, Ax.look, Ax.putE, Ax.keepE, Ax.argsE, Ax.extr, Ax.binV, Ax.intBin, Ax.unV, Ax.addOff, Ax.sizeN, Ax.mkV, Ax.okV, reduceIte, Nat.reduceEqDiff, Nat.reduceAdd, Nat.reduceLeDiff, Nat.reduceLT, Nat.reduceSub, Nat.reduceMul, reduceCtorEq, Int.reduceEq, Int.reduceLT, Int.reduceLE, Int.reduceAdd, Int.reduceSub, Int.reduceNeg, Int.reduceToNat, undef, Value.cells, axL, get1 hb3, set1 hb3]; rfl) rfl ?_)
                | (with_reducible refine cond_t ?_ ?_; · simp only [Ax.ev, Ax.look, reduceIte, Nat.reduceEqDiff])
                | (with_reducible refine cond_f ?_ ?_; · simp only [Ax.ev, Ax.look, reduceIte, Nat.reduceEqDiff])
                | (with_reducible refine is_rp ?_; first | refine r_postR rfl ?_ | refine r_postR (by simp only [Ax.result, Ax.resVs, Ax.resV, R10, Ax.look, sizeN, mkV, Nat.reduceEqDiff, reduceIte, axL, get1 hb3, set1 hb3]; rfl) ?_)
                | (with_reducible refine is_np ?_; first | refine n_postR rfl ?_ | refine n_postR (by simp only [Ax.result, Ax.resVs, Ax.resV, R10, Ax.look, sizeN, mkV, Nat.reduceEqDiff, reduceIte, axL, get1 hb3, set1 hb3]; rfl) ?_)
                | (first | with_reducible refine is_wd ?_ | with_reducible refine dk_wd ?_); refine go_dt _ (by simp only [Ax.runDK, Ax.runDT, Ax.runDops, Ax.run1d, Ax.recs, Ax.okPair, Ax.idsE, Ax.idsV, AOp.mems, AOp.isWrite, DRec.none, axD, Ax.runK, Ax.runOps, Ax.run1, Ax.wantA, Ax.step, Ax.ev, Ax.evs, Ax.evo, Ax.evp, Ax.look, Ax.putE, Ax.keepE, Ax.argsE, Ax.extr, Ax.binV, Ax.intBin, Ax.unV, Ax.addOff, Ax.sizeN, Ax.mkV, Ax.okV, reduceIte, Nat.reduceEqDiff, Nat.reduceAdd, Nat.reduceLeDiff, Nat.reduceLT, Nat.reduceSub, Nat.reduceMul, reduceCtorEq, Int.reduceEq, Int.reduceLT, Int.reduceLE, Int.reduceAdd, Int.reduceSub, Int.reduceNeg, Int.reduceToNat, undef, Value.cells, axL, get1 hb3, set1 hb3]; rfl) rfl ?_
                | (with_reducible first | refine end_reg (Ev.mono _ _) ?_ | refine end_dreg (Ev.mono _ _) ?_ | refine end_cond (Ev.mono _ _) ?_ | refine end_block (Ev.mono _ _) ?_ | refine end_loop (Ev.mono _ _) ?_))
            exact hfin
          · repeat' (first
                | (with_reducible first | refine go_assoc ?_ (Ev.mono _ _) | refine go_skip ?_ | refine go_fin ?_ | refine go_ret ?_ | refine go_ret0 ?_ | refine go_exit ?_ | refine go_exit0 ?_ | refine go_block ?_ | refine n_then ?_ | refine x_then ?_ | refine r_then ?_ | refine n_block ?_ | refine r_block ?_ | refine x_block ?_ | refine x_block_ne ?_ (by decide))
                | (with_reducible refine is_k ?_; refine go_k _ (by simp only [Ax.runK, Ax.runOps, Ax.run1, Ax.wantA, Ax.step, Ax.ev, Ax.evs, Ax.evo, Ax.evp, Ax.look, Ax.putE, Ax.keepE, Ax.argsE, Ax.extr, Ax.binV, Ax.intBin, Ax.unV, Ax.addOff, Ax.sizeN, Ax.mkV, Ax.okV, reduceIte, Nat.reduceEqDiff, Nat.reduceAdd, Nat.reduceLeDiff, Nat.reduceLT, Nat.reduceSub, Nat.reduceMul, reduceCtorEq, Int.reduceEq, Int.reduceLT, Int.reduceLE, Int.reduceAdd, Int.reduceSub, Int.reduceNeg, Int.reduceToNat, undef, Value.cells, axL, hp, hp2, hp3, hlr, get1 hb2]; rfl) rfl ?_)
                | (with_reducible refine cond_t ?_ ?_; · simp only [Ax.ev, Ax.look, reduceIte, Nat.reduceEqDiff])
                | (with_reducible refine cond_f ?_ ?_; · simp only [Ax.ev, Ax.look, reduceIte, Nat.reduceEqDiff])
                | (with_reducible refine is_rp ?_; first | refine r_postR rfl ?_ | refine r_postR (by simp only [Ax.result, Ax.resVs, Ax.resV, R10, Ax.look, sizeN, mkV, Nat.reduceEqDiff, reduceIte, axL, hp, hp2, hp3, hlr, get1 hb2]; rfl) ?_)
                | (with_reducible refine is_np ?_; first | refine n_postR rfl ?_ | refine n_postR (by simp only [Ax.result, Ax.resVs, Ax.resV, R10, Ax.look, sizeN, mkV, Nat.reduceEqDiff, reduceIte, axL, hp, hp2, hp3, hlr, get1 hb2]; rfl) ?_)
                | (first | with_reducible refine is_wd ?_ | with_reducible refine dk_wd ?_); refine go_dt _ (by simp only [Ax.runDK, Ax.runDT, Ax.runDops, Ax.run1d, Ax.recs, Ax.okPair, Ax.idsE, Ax.idsV, AOp.mems, AOp.isWrite, DRec.none, axD, Ax.runK, Ax.runOps, Ax.run1, Ax.wantA, Ax.step, Ax.ev, Ax.evs, Ax.evo, Ax.evp, Ax.look, Ax.putE, Ax.keepE, Ax.argsE, Ax.extr, Ax.binV, Ax.intBin, Ax.unV, Ax.addOff, Ax.sizeN, Ax.mkV, Ax.okV, reduceIte, Nat.reduceEqDiff, Nat.reduceAdd, Nat.reduceLeDiff, Nat.reduceLT, Nat.reduceSub, Nat.reduceMul, reduceCtorEq, Int.reduceEq, Int.reduceLT, Int.reduceLE, Int.reduceAdd, Int.reduceSub, Int.reduceNeg, Int.reduceToNat, undef, Value.cells, axL, hp, hp2, hp3, hlr, get1 hb2]; rfl) rfl ?_
                | (with_reducible first | refine end_reg (Ev.mono _ _) ?_ | refine end_dreg (Ev.mono _ _) ?_ | refine end_cond (Ev.mono _ _) ?_ | refine end_block (Ev.mono _ _) ?_ | refine end_loop (Ev.mono _ _) ?_))
            repeat' (with_reducible first | refine go_assoc ?_ (Ev.mono _ _) | refine go_skip ?_ | refine go_block ?_ | refine end_reg (Ev.mono _ _) ?_)
            refine go_callC _ (by simp only [Ax.runC, AOp.isCall, Ax.runK, Ax.runOps, Ax.run1, Ax.wantA, Ax.step, Ax.ev, Ax.evs, Ax.evo, Ax.evp, Ax.look, Ax.putE, Ax.keepE, Ax.argsE, Ax.extr, Ax.binV, Ax.intBin, Ax.unV, Ax.addOff, Ax.sizeN, Ax.mkV, Ax.okV, reduceIte, Nat.reduceEqDiff, Nat.reduceAdd, Nat.reduceLeDiff, Nat.reduceLT, Nat.reduceSub, Nat.reduceMul, reduceCtorEq, Int.reduceEq, Int.reduceLT, Int.reduceLE, Int.reduceAdd, Int.reduceSub, Int.reduceNeg, Int.reduceToNat, undef, Value.cells, axL]; rfl) rfl rfl (by simp only [Ax.wantA, Ax.look, reduceIte, Nat.reduceEqDiff, bq_t, bq_f, Bool.not_true, Bool.not_false]; try rfl) rfl (by simp only [Ax.runK, Ax.runOps, Ax.run1, Ax.wantA, Ax.step, Ax.ev, Ax.evs, Ax.evo, Ax.evp, Ax.look, Ax.putE, Ax.keepE, Ax.argsE, Ax.extr, Ax.binV, Ax.intBin, Ax.unV, Ax.addOff, Ax.sizeN, Ax.mkV, Ax.okV, reduceIte, Nat.reduceEqDiff, Nat.reduceAdd, Nat.reduceLeDiff, Nat.reduceLT, Nat.reduceSub, Nat.reduceMul, reduceCtorEq, Int.reduceEq, Int.reduceLT, Int.reduceLE, Int.reduceAdd, Int.reduceSub, Int.reduceNeg, Int.reduceToNat, undef, Value.cells, axL]; try rfl) ?_
            refine away_spec X H3 hinv.small hinv.full (other_row hinv hr0 hst) (fun S3 rv3 H5 => ?_)
            obtain ⟨hb3, hfin⟩ := fin S3 rv3 H5
            repeat' (first
                | (with_reducible first | refine go_assoc ?_ (Ev.mono _ _) | refine go_skip ?_ | refine go_fin ?_ | refine go_ret ?_ | refine go_ret0 ?_ | refine go_exit ?_ | refine go_exit0 ?_ | refine go_block ?_ | refine n_then ?_ | refine x_then ?_ | refine r_then ?_ | refine n_block ?_ | refine r_block ?_ | refine x_block ?_ | refine x_block_ne ?_ (by decide))
                | (with_reducible refine is_k ?_; refine go_k _ (by simp only [Ax.runK, Ax.runOps, Ax.run1, Ax.wantA, Ax.step, Ax.ev, Ax.evs, Ax.evo, Ax.evp, Ax.look, Ax.putE, Ax.keepE, Ax.argsE, Ax.extr, Ax.binV, Ax.intBin, Ax.unV, Ax.addOff, Ax.sizeN, Ax.mkV, Ax.okV, reduceIte, Nat.reduceEqDiff, Nat.reduceAdd, Nat.reduceLeDiff, Nat.reduceLT, Nat.reduceSub, Nat.reduceMul, reduceCtorEq, Int.reduceEq, Int.reduceLT, Int.reduceLE, Int.reduceAdd, Int.reduceSub, Int.reduceNeg, Int.reduceToNat, undef, Value.cells, axL, get1 hb3, set1 hb3]; rfl) rfl ?_)
                | (with_reducible refine cond_t ?_ ?_; · simp only [Ax.ev, Ax.look, reduceIte, Nat.reduceEqDiff])
                | (with_reducible refine cond_f ?_ ?_; · simp only [Ax.ev, Ax.look, reduceIte, Nat.reduceEqDiff])
                | (with_reducible refine is_rp ?_; first | refine r_postR rfl ?_ | refine r_postR (by simp only [Ax.result, Ax.resVs, Ax.resV, R10, Ax.look, sizeN, mkV, Nat.reduceEqDiff, reduceIte, axL, get1 hb3, set1 hb3]; rfl) ?_)
                | (with_reducible refine is_np ?_; first | refine n_postR rfl ?_ | refine n_postR (by simp only [Ax.result, Ax.resVs, Ax.resV, R10, Ax.look, sizeN, mkV, Nat.reduceEqDiff, reduceIte, axL, get1 hb3, set1 hb3]; rfl) ?_)
                | (first | with_reducible refine is_wd ?_ | with_reducible refine dk_wd ?_); refine go_dt _ (by simp only [Ax.runDK, Ax.runDT, Ax.runDops, Ax.run1d, Ax.recs, Ax.okPair, Ax.idsE, Ax.idsV, AOp.mems, AOp.isWrite, DRec.none, axD, Ax.runK, Ax.runOps, Ax.run1, Ax.wantA, Ax.step, Ax.ev, Ax.evs, Ax.evo, Ax.evp, Ax.look, Ax.putE, Ax.keepE, Ax.argsE, Ax.extr, Ax.binV, Ax.intBin, Ax.unV, Ax.addOff, Ax.sizeN, Ax.mkV, Ax.okV, reduceIte, Nat.reduceEqDiff, Nat.reduceAdd, Nat.reduceLeDiff, Nat.reduceLT, Nat.reduceSub, Nat.reduceMul, reduceCtorEq, Int.reduceEq, Int.reduceLT, Int.reduceLE, Int.reduceAdd, Int.reduceSub, Int.reduceNeg, Int.reduceToNat, undef, Value.cells, axL, get1 hb3, set1 hb3]; rfl) rfl ?_
                | (with_reducible first | refine end_reg (Ev.mono _ _) ?_ | refine end_dreg (Ev.mono _ _) ?_ | refine end_cond (Ev.mono _ _) ?_ | refine end_block (Ev.mono _ _) ?_ | refine end_loop (Ev.mono _ _) ?_))
            exact hfin
  · obtain ⟨lv, ps, rfl, H1⟩ := LocksA.open' H
    have hl := SlT.len (H1.pick 2 [1] rfl)
    refine Ev.fnR (rs := R10) (c := A10) rfl ?_; unfold A10
    repeat' (first
        | (with_reducible first | refine go_assoc ?_ (Ev.mono _ _) | refine go_skip ?_ | refine go_fin ?_ | refine go_ret ?_ | refine go_ret0 ?_ | refine go_exit ?_ | refine go_exit0 ?_ | refine go_block ?_ | refine n_then ?_ | refine x_then ?_ | refine r_then ?_ | refine n_block ?_ | refine r_block ?_ | refine x_block ?_ | refine x_block_ne ?_ (by decide))
        | (with_reducible refine is_k ?_; refine go_k _ (by simp only [Ax.runK, Ax.runOps, Ax.run1, Ax.wantA, Ax.step, Ax.ev, Ax.evs, Ax.evo, Ax.evp, Ax.look, Ax.putE, Ax.keepE, Ax.argsE, Ax.extr, Ax.binV, Ax.intBin, Ax.unV, Ax.addOff, Ax.sizeN, Ax.mkV, Ax.okV, reduceIte, Nat.reduceEqDiff, Nat.reduceAdd, Nat.reduceLeDiff, Nat.reduceLT, Nat.reduceSub, Nat.reduceMul, reduceCtorEq, Int.reduceEq, Int.reduceLT, Int.reduceLE, Int.reduceAdd, Int.reduceSub, Int.reduceNeg, Int.reduceToNat, undef, Value.cells, axL]; rfl) rfl ?_)
        | (with_reducible refine cond_t ?_ ?_; · simp only [Ax.ev, Ax.look, reduceIte, Nat.reduceEqDiff])
        | (with_reducible refine cond_f ?_ ?_; · simp only [Ax.ev, Ax.look, reduceIte, Nat.reduceEqDiff])
        | (with_reducible refine is_rp ?_; first | refine r_postR rfl ?_ | refine r_postR (by simp only [Ax.result, Ax.resVs, Ax.resV, R10, Ax.look, sizeN, mkV, Nat.reduceEqDiff, reduceIte, axL]; rfl) ?_)
        | (with_reducible refine is_np ?_; first | refine n_postR rfl ?_ | refine n_postR (by simp only [Ax.result, Ax.resVs, Ax.resV, R10, Ax.look, sizeN, mkV, Nat.reduceEqDiff, reduceIte, axL]; rfl) ?_)
        | (first | with_reducible refine is_wd ?_ | with_reducible refine dk_wd ?_); refine go_dt _ (by simp only [Ax.runDK, Ax.runDT, Ax.runDops, Ax.run1d, Ax.recs, Ax.okPair, Ax.idsE, Ax.idsV, AOp.mems, AOp.isWrite, DRec.none, axD, Ax.runK, Ax.runOps, Ax.run1, Ax.wantA, Ax.step, Ax.ev, Ax.evs, Ax.evo, Ax.evp, Ax.look, Ax.putE, Ax.keepE, Ax.argsE, Ax.extr, Ax.binV, Ax.intBin, Ax.unV, Ax.addOff, Ax.sizeN, Ax.mkV, Ax.okV, reduceIte, Nat.reduceEqDiff, Nat.reduceAdd, Nat.reduceLeDiff, Nat.reduceLT, Nat.reduceSub, Nat.reduceMul, reduceCtorEq, Int.reduceEq, Int.reduceLT, Int.reduceLE, Int.reduceAdd, Int.reduceSub, Int.reduceNeg, Int.reduceToNat, undef, Value.cells, axL]; rfl) rfl ?_
        | (with_reducible first | refine end_reg (Ev.mono _ _) ?_ | refine end_dreg (Ev.mono _ _) ?_ | refine end_cond (Ev.mono _ _) ?_ | refine end_block (Ev.mono _ _) ?_ | refine end_loop (Ev.mono _ _) ?_))
    repeat' (with_reducible first | refine go_assoc ?_ (Ev.mono _ _) | refine go_skip ?_ | refine go_block ?_ | refine end_reg (Ev.mono _ _) ?_)
    refine go_callC _ (by simp only [Ax.runC, AOp.isCall, Ax.runK, Ax.runOps, Ax.run1, Ax.wantA, Ax.step, Ax.ev, Ax.evs, Ax.evo, Ax.evp, Ax.look, Ax.putE, Ax.keepE, Ax.argsE, Ax.extr, Ax.binV, Ax.intBin, Ax.unV, Ax.addOff, Ax.sizeN, Ax.mkV, Ax.okV, reduceIte, Nat.reduceEqDiff, Nat.reduceAdd, Nat.reduceLeDiff, Nat.reduceLT, Nat.reduceSub, Nat.reduceMul, reduceCtorEq, Int.reduceEq, Int.reduceLT, Int.reduceLE, Int.reduceAdd, Int.reduceSub, Int.reduceNeg, Int.reduceToNat, undef, Value.cells, axL]; rfl) rfl rfl (by simp only [Ax.wantA, Ax.look, reduceIte, Nat.reduceEqDiff, bq_t, bq_f, Bool.not_true, Bool.not_false]; try rfl) rfl (by simp only [Ax.runK, Ax.runOps, Ax.run1, Ax.wantA, Ax.step, Ax.ev, Ax.evs, Ax.evo, Ax.evp, Ax.look, Ax.putE, Ax.keepE, Ax.argsE, Ax.extr, Ax.binV, Ax.intBin, Ax.unV, Ax.addOff, Ax.sizeN, Ax.mkV, Ax.okV, reduceIte, Nat.reduceEqDiff, Nat.reduceAdd, Nat.reduceLeDiff, Nat.reduceLT, Nat.reduceSub, Nat.reduceMul, reduceCtorEq, Int.reduceEq, Int.reduceLT, Int.reduceLE, Int.reduceAdd, Int.reduceSub, Int.reduceNeg, Int.reduceToNat, undef, Value.cells, axL]; try rfl) ?_
    refine at_spec X (p := .pointer none) H1.pget hl n (fun h1 h2 => absurd ⟨h1, by simpa using h2⟩ hn) (fun _ => ?_) (fun h1 h2 => absurd ⟨h1, by simpa using h2⟩ hn)
    repeat' (first
        | (with_reducible first | refine go_assoc ?_ (Ev.mono _ _) | refine go_skip ?_ | refine go_fin ?_ | refine go_ret ?_ | refine go_ret0 ?_ | refine go_exit ?_ | refine go_exit0 ?_ | refine go_block ?_ | refine n_then ?_ | refine x_then ?_ | refine r_then ?_ | refine n_block ?_ | refine r_block ?_ | refine x_block ?_ | refine x_block_ne ?_ (by decide))
        | (with_reducible refine is_k ?_; refine go_k _ (by simp only [Ax.runK, Ax.runOps, Ax.run1, Ax.wantA, Ax.step, Ax.ev, Ax.evs, Ax.evo, Ax.evp, Ax.look, Ax.putE, Ax.keepE, Ax.argsE, Ax.extr, Ax.binV, Ax.intBin, Ax.unV, Ax.addOff, Ax.sizeN, Ax.mkV, Ax.okV, reduceIte, Nat.reduceEqDiff, Nat.reduceAdd, Nat.reduceLeDiff, Nat.reduceLT, Nat.reduceSub, Nat.reduceMul, reduceCtorEq, Int.reduceEq, Int.reduceLT, Int.reduceLE, Int.reduceAdd, Int.reduceSub, Int.reduceNeg, Int.reduceToNat, undef, Value.cells, axL]; rfl) rfl ?_)
        | (with_reducible refine cond_t ?_ ?_; · simp only [Ax.ev, Ax.look, reduceIte, Nat.reduceEqDiff])
        | (with_reducible refine cond_f ?_ ?_; · simp only [Ax.ev, Ax.look, reduceIte, Nat.reduceEqDiff])
        | (with_reducible refine is_rp ?_; first | refine r_postR rfl ?_ | refine r_postR (by simp only [Ax.result, Ax.resVs, Ax.resV, R10, Ax.look, sizeN, mkV, Nat.reduceEqDiff, reduceIte, axL]; rfl) ?_)
        | (with_reducible refine is_np ?_; first | refine n_postR rfl ?_ | refine n_postR (by simp only [Ax.result, Ax.resVs, Ax.resV, R10, Ax.look, sizeN, mkV, Nat.reduceEqDiff, reduceIte, axL]; rfl) ?_)
        | (first | with_reducible refine is_wd ?_ | with_reducible refine dk_wd ?_); refine go_dt _ (by simp only [Ax.runDK, Ax.runDT, Ax.runDops, Ax.run1d, Ax.recs, Ax.okPair, Ax.idsE, Ax.idsV, AOp.mems, AOp.isWrite, DRec.none, axD, Ax.runK, Ax.runOps, Ax.run1, Ax.wantA, Ax.step, Ax.ev, Ax.evs, Ax.evo, Ax.evp, Ax.look, Ax.putE, Ax.keepE, Ax.argsE, Ax.extr, Ax.binV, Ax.intBin, Ax.unV, Ax.addOff, Ax.sizeN, Ax.mkV, Ax.okV, reduceIte, Nat.reduceEqDiff, Nat.reduceAdd, Nat.reduceLeDiff, Nat.reduceLT, Nat.reduceSub, Nat.reduceMul, reduceCtorEq, Int.reduceEq, Int.reduceLT, Int.reduceLE, Int.reduceAdd, Int.reduceSub, Int.reduceNeg, Int.reduceToNat, undef, Value.cells, axL]; rfl) rfl ?_
        | (with_reducible first | refine end_reg (Ev.mono _ _) ?_ | refine end_dreg (Ev.mono _ _) ?_ | refine end_cond (Ev.mono _ _) ?_ | refine end_block (Ev.mono _ _) ?_ | refine end_loop (Ev.mono _ _) ?_))
    exact hq0 hn
end Go.Proofs.Ytgnjkkppahhhfaa

/- Law 14: Owner, Socket, Waiting, Owned, New. -/
namespace Go.Proofs.Ytgnjkkppahhhfaa
open Go.Ax
open Go.Ax.Enc (enc)

section
variable (X : Nat → List Value → Option Value) {R : Nat → Option (List Value)} {F : List Asn} {S : AS} {L : Nat} {ms : List LockM}

theorem owner_spec (H : St R (LocksA L ms :: F) S) (n : Int) {Q : Value → AS → Prop}
    (hq0 : ¬ (0 ≤ n ∧ n < ms.length) → Q (.tuple #[.int .i64 0, .bool false]) S)
    (hq : ∀ k : Nat, n = k → ∀ hk : k < ms.length, Q (.tuple #[.int .i64 (if ms[k].held = true then ms[k].owner else 0), .bool ms[k].held]) S) : Ev G X 9 [.pointer (some ⟨L, 0, none⟩), .int .i64 n] S Q := by
  by_cases hn : 0 ≤ n ∧ n < ms.length
  · obtain ⟨k, rfl⟩ : ∃ k : Nat, n = k := ⟨n.toNat, by omega⟩
    have hk : k < ms.length := by omega
    obtain ⟨lv, b, pre, post, rv, G', hL, hlv, hix, H1, back⟩ := LocksA.focus H hk
    have hqq := hq k rfl hk
    have hb := H1.pget
    generalize ms[k] = m at hb hqq
    unfold lockC at hb
    refine Ev.fnR (rs := R9) (c := A9) rfl ?_; unfold A9
    repeat' (first
        | (with_reducible first | refine go_assoc ?_ (Ev.mono _ _) | refine go_skip ?_ | refine go_fin ?_ | refine go_ret ?_ | refine go_ret0 ?_ | refine go_exit ?_ | refine go_exit0 ?_ | refine go_block ?_ | refine n_then ?_ | refine x_then ?_ | refine r_then ?_ | refine n_block ?_ | refine r_block ?_ | refine x_block ?_ | refine x_block_ne ?_ (by decide))
        | (with_reducible refine is_k ?_; refine go_k _ (by simp only [Ax.runK, Ax.runOps, Ax.run1, Ax.wantA, Ax.step, Ax.ev, Ax.evs, Ax.evo, Ax.evp, Ax.look, Ax.putE, Ax.keepE, Ax.argsE, Ax.extr, Ax.binV, Ax.intBin, Ax.unV, Ax.addOff, Ax.sizeN, Ax.mkV, Ax.okV, reduceIte, Nat.reduceEqDiff, Nat.reduceAdd, Nat.reduceLeDiff, Nat.reduceLT, Nat.reduceSub, Nat.reduceMul, reduceCtorEq, Int.reduceEq, Int.reduceLT, Int.reduceLE, Int.reduceAdd, Int.reduceSub, Int.reduceNeg, Int.reduceToNat, undef, Value.cells, axL]; rfl) rfl ?_)
        | (with_reducible refine cond_t ?_ ?_; · simp only [Ax.ev, Ax.look, reduceIte, Nat.reduceEqDiff])
        | (with_reducible refine cond_f ?_ ?_; · simp only [Ax.ev, Ax.look, reduceIte, Nat.reduceEqDiff])
        | (with_reducible refine is_rp ?_; first | refine r_postR rfl ?_ | refine r_postR (by simp only [Ax.result, Ax.resVs, Ax.resV, R9, Ax.look, sizeN, mkV, Nat.reduceEqDiff, reduceIte, axL]; rfl) ?_)
        | (with_reducible refine is_np ?_; first | refine n_postR rfl ?_ | refine n_postR (by simp only [Ax.result, Ax.resVs, Ax.resV, R9, Ax.look, sizeN, mkV, Nat.reduceEqDiff, reduceIte, axL]; rfl) ?_)
        | (first | with_reducible refine is_wd ?_ | with_reducible refine dk_wd ?_); refine go_dt _ (by simp only [Ax.runDK, Ax.runDT, Ax.runDops, Ax.run1d, Ax.recs, Ax.okPair, Ax.idsE, Ax.idsV, AOp.mems, AOp.isWrite, DRec.none, axD, Ax.runK, Ax.runOps, Ax.run1, Ax.wantA, Ax.step, Ax.ev, Ax.evs, Ax.evo, Ax.evp, Ax.look, Ax.putE, Ax.keepE, Ax.argsE, Ax.extr, Ax.binV, Ax.intBin, Ax.unV, Ax.addOff, Ax.sizeN, Ax.mkV, Ax.okV, reduceIte, Nat.reduceEqDiff, Nat.reduceAdd, Nat.reduceLeDiff, Nat.reduceLT, Nat.reduceSub, Nat.reduceMul, reduceCtorEq, Int.reduceEq, Int.reduceLT, Int.reduceLE, Int.reduceAdd, Int.reduceSub, Int.reduceNeg, Int.reduceToNat, undef, Value.cells, axL]; rfl) rfl ?_
        | (with_reducible first | refine end_reg (Ev.mono _ _) ?_ | refine end_dreg (Ev.mono _ _) ?_ | refine end_cond (Ev.mono _ _) ?_ | refine end_block (Ev.mono _ _) ?_ | refine end_loop (Ev.mono _ _) ?_))
    repeat' (with_reducible first | refine go_assoc ?_ (Ev.mono _ _) | refine go_skip ?_ | refine go_block ?_ | refine end_reg (Ev.mono _ _) ?_)
    refine go_callC _ (by simp only [Ax.runC, AOp.isCall, Ax.runK, Ax.runOps, Ax.run1, Ax.wantA, Ax.step, Ax.ev, Ax.evs, Ax.evo, Ax.evp, Ax.look, Ax.putE, Ax.keepE, Ax.argsE, Ax.extr, Ax.binV, Ax.intBin, Ax.unV, Ax.addOff, Ax.sizeN, Ax.mkV, Ax.okV, reduceIte, Nat.reduceEqDiff, Nat.reduceAdd, Nat.reduceLeDiff, Nat.reduceLT, Nat.reduceSub, Nat.reduceMul, reduceCtorEq, Int.reduceEq, Int.reduceLT, Int.reduceLE, Int.reduceAdd, Int.reduceSub, Int.reduceNeg, Int.reduceToNat, undef, Value.cells, axL]; rfl) rfl rfl (by simp only [Ax.wantA, Ax.look, reduceIte, Nat.reduceEqDiff, bq_t, bq_f, Bool.not_true, Bool.not_false]; try rfl) rfl (by simp only [Ax.runK, Ax.runOps, Ax.run1, Ax.wantA, Ax.step, Ax.ev, Ax.evs, Ax.evo, Ax.evp, Ax.look, Ax.putE, Ax.keepE, Ax.argsE, Ax.extr, Ax.binV, Ax.intBin, Ax.unV, Ax.addOff, Ax.sizeN, Ax.mkV, Ax.okV, reduceIte, Nat.reduceEqDiff, Nat.reduceAdd, Nat.reduceLeDiff, Nat.reduceLT, Nat.reduceSub, Nat.reduceMul, reduceCtorEq, Int.reduceEq, Int.reduceLT, Int.reduceLE, Int.reduceAdd, Int.reduceSub, Int.reduceNeg, Int.reduceToNat, undef, Value.cells, axL]; try rfl) ?_
    refine at_spec X hL hlv k (fun _ _ => hix .i64) (fun h => absurd hn h) (fun _ _ => ?_)
    cases hh : m.held with
    | false =>
      rw [hh] at hqq
      repeat' (first
          | (with_reducible first | refine go_assoc ?_ (Ev.mono _ _) | refine go_skip ?_ | refine go_fin ?_ | refine go_ret ?_ | refine go_ret0 ?_ | refine go_exit ?_ | refine go_exit0 ?_ | refine go_block ?_ | refine n_then ?_ | refine x_then ?_ | refine r_then ?_ | refine n_block ?_ | refine r_block ?_ | refine x_block ?_ | refine x_block_ne ?_ (by decide))
          | (with_reducible refine is_k ?_; refine go_k _ (by simp only [Ax.runK, Ax.runOps, Ax.run1, Ax.wantA, Ax.step, Ax.ev, Ax.evs, Ax.evo, Ax.evp, Ax.look, Ax.putE, Ax.keepE, Ax.argsE, Ax.extr, Ax.binV, Ax.intBin, Ax.unV, Ax.addOff, Ax.sizeN, Ax.mkV, Ax.okV, reduceIte, Nat.reduceEqDiff, Nat.reduceAdd, Nat.reduceLeDiff, Nat.reduceLT, Nat.reduceSub, Nat.reduceMul, reduceCtorEq, Int.reduceEq, Int.reduceLT, Int.reduceLE, Int.reduceAdd, Int.reduceSub, Int.reduceNeg, Int.reduceToNat, undef, Value.cells, axL, get1 hb, hh]; rfl) rfl ?_)
          | (with_reducible refine cond_t ?_ ?_; · simp only [Ax.ev, Ax.look, reduceIte, Nat.reduceEqDiff])
          | (with_reducible refine cond_f ?_ ?_; · simp only [Ax.ev, Ax.look, reduceIte, Nat.reduceEqDiff])
          | (with_reducible refine is_rp ?_; first | refine r_postR rfl ?_ | refine r_postR (by simp only [Ax.result, Ax.resVs, Ax.resV, R9, Ax.look, sizeN, mkV, Nat.reduceEqDiff, reduceIte, axL, get1 hb, hh]; rfl) ?_)
          | (with_reducible refine is_np ?_; first | refine n_postR rfl ?_ | refine n_postR (by simp only [Ax.result, Ax.resVs, Ax.resV, R9, Ax.look, sizeN, mkV, Nat.reduceEqDiff, reduceIte, axL, get1 hb, hh]; rfl) ?_)
          | (first | with_reducible refine is_wd ?_ | with_reducible refine dk_wd ?_); refine go_dt _ (by simp only [Ax.runDK, Ax.runDT, Ax.runDops, Ax.run1d, Ax.recs, Ax.okPair, Ax.idsE, Ax.idsV, AOp.mems, AOp.isWrite, DRec.none, axD, Ax.runK, Ax.runOps, Ax.run1, Ax.wantA, Ax.step, Ax.ev, Ax.evs, Ax.evo, Ax.evp, Ax.look, Ax.putE, Ax.keepE, Ax.argsE, Ax.extr, Ax.binV, Ax.intBin, Ax.unV, Ax.addOff, Ax.sizeN, Ax.mkV, Ax.okV, reduceIte, Nat.reduceEqDiff, Nat.reduceAdd, Nat.reduceLeDiff, Nat.reduceLT, Nat.reduceSub, Nat.reduceMul, reduceCtorEq, Int.reduceEq, Int.reduceLT, Int.reduceLE, Int.reduceAdd, Int.reduceSub, Int.reduceNeg, Int.reduceToNat, undef, Value.cells, axL, get1 hb, hh]; rfl) rfl ?_
          | (with_reducible first | refine end_reg (Ev.mono _ _) ?_ | refine end_dreg (Ev.mono _ _) ?_ | refine end_cond (Ev.mono _ _) ?_ | refine end_block (Ev.mono _ _) ?_ | refine end_loop (Ev.mono _ _) ?_))
      exact hqq
    | true =>
      rw [hh] at hqq
      repeat' (first
          | (with_reducible first | refine go_assoc ?_ (Ev.mono _ _) | refine go_skip ?_ | refine go_fin ?_ | refine go_ret ?_ | refine go_ret0 ?_ | refine go_exit ?_ | refine go_exit0 ?_ | refine go_block ?_ | refine n_then ?_ | refine x_then ?_ | refine r_then ?_ | refine n_block ?_ | refine r_block ?_ | refine x_block ?_ | refine x_block_ne ?_ (by decide))
          | (with_reducible refine is_k ?_; refine go_k _ (by simp only [Ax.runK, Ax.runOps, Ax.run1, Ax.wantA, Ax.step, Ax.ev, Ax.evs, Ax.evo, Ax.evp, Ax.look, Ax.putE, Ax.keepE, Ax.argsE, Ax.extr, Ax.binV, Ax.intBin, Ax.unV, Ax.addOff, Ax.sizeN, Ax.mkV, Ax.okV, reduceIte, Nat.reduceEqDiff, Nat.reduceAdd, Nat.reduceLeDiff, Nat.reduceLT, Nat.reduceSub, Nat.reduceMul, reduceCtorEq, Int.reduceEq, Int.reduceLT, Int.reduceLE, Int.reduceAdd, Int.reduceSub, Int.reduceNeg, Int.reduceToNat, undef, Value.cells, axL, get1 hb, hh]; rfl) rfl ?_)
          | (with_reducible refine cond_t ?_ ?_; · simp only [Ax.ev, Ax.look, reduceIte, Nat.reduceEqDiff])
          | (with_reducible refine cond_f ?_ ?_; · simp only [Ax.ev, Ax.look, reduceIte, Nat.reduceEqDiff])
          | (with_reducible refine is_rp ?_; first | refine r_postR rfl ?_ | refine r_postR (by simp only [Ax.result, Ax.resVs, Ax.resV, R9, Ax.look, sizeN, mkV, Nat.reduceEqDiff, reduceIte, axL, get1 hb, hh]; rfl) ?_)
          | (with_reducible refine is_np ?_; first | refine n_postR rfl ?_ | refine n_postR (by simp only [Ax.result, Ax.resVs, Ax.resV, R9, Ax.look, sizeN, mkV, Nat.reduceEqDiff, reduceIte, axL, get1 hb, hh]; rfl) ?_)
          | (first | with_reducible refine is_wd ?_ | with_reducible refine dk_wd ?_); refine go_dt _ (by simp only [Ax.runDK, Ax.runDT, Ax.runDops, Ax.run1d, Ax.recs, Ax.okPair, Ax.idsE, Ax.idsV, AOp.mems, AOp.isWrite, DRec.none, axD, Ax.runK, Ax.runOps, Ax.run1, Ax.wantA, Ax.step, Ax.ev, Ax.evs, Ax.evo, Ax.evp, Ax.look, Ax.putE, Ax.keepE, Ax.argsE, Ax.extr, Ax.binV, Ax.intBin, Ax.unV, Ax.addOff, Ax.sizeN, Ax.mkV, Ax.okV, reduceIte, Nat.reduceEqDiff, Nat.reduceAdd, Nat.reduceLeDiff, Nat.reduceLT, Nat.reduceSub, Nat.reduceMul, reduceCtorEq, Int.reduceEq, Int.reduceLT, Int.reduceLE, Int.reduceAdd, Int.reduceSub, Int.reduceNeg, Int.reduceToNat, undef, Value.cells, axL, get1 hb, hh]; rfl) rfl ?_
          | (with_reducible first | refine end_reg (Ev.mono _ _) ?_ | refine end_dreg (Ev.mono _ _) ?_ | refine end_cond (Ev.mono _ _) ?_ | refine end_block (Ev.mono _ _) ?_ | refine end_loop (Ev.mono _ _) ?_))
      exact hqq
  · obtain ⟨lv, ps, rfl, H1⟩ := LocksA.open' H
    have hl := SlT.len (H1.pick 2 [1] rfl)
    refine Ev.fnR (rs := R9) (c := A9) rfl ?_; unfold A9
    repeat' (first
        | (with_reducible first | refine go_assoc ?_ (Ev.mono _ _) | refine go_skip ?_ | refine go_fin ?_ | refine go_ret ?_ | refine go_ret0 ?_ | refine go_exit ?_ | refine go_exit0 ?_ | refine go_block ?_ | refine n_then ?_ | refine x_then ?_ | refine r_then ?_ | refine n_block ?_ | refine r_block ?_ | refine x_block ?_ | refine x_block_ne ?_ (by decide))
        | (with_reducible refine is_k ?_; refine go_k _ (by simp only [Ax.runK, Ax.runOps, Ax.run1, Ax.wantA, Ax.step, Ax.ev, Ax.evs, Ax.evo, Ax.evp, Ax.look, Ax.putE, Ax.keepE, Ax.argsE, Ax.extr, Ax.binV, Ax.intBin, Ax.unV, Ax.addOff, Ax.sizeN, Ax.mkV, Ax.okV, reduceIte, Nat.reduceEqDiff, Nat.reduceAdd, Nat.reduceLeDiff, Nat.reduceLT, Nat.reduceSub, Nat.reduceMul, reduceCtorEq, Int.reduceEq, Int.reduceLT, Int.reduceLE, Int.reduceAdd, Int.reduceSub, Int.reduceNeg, Int.reduceToNat, undef, Value.cells, axL]; rfl) rfl ?_)
        | (with_reducible refine cond_t ?_ ?_; · simp only [Ax.ev, Ax.look, reduceIte, Nat.reduceEqDiff])
        | (with_reducible refine cond_f ?_ ?_; · simp only [Ax.ev, Ax.look, reduceIte, Nat.reduceEqDiff])
        | (with_reducible refine is_rp ?_; first | refine r_postR rfl ?_ | refine r_postR (by simp only [Ax.result, Ax.resVs, Ax.resV, R9, Ax.look, sizeN, mkV, Nat.reduceEqDiff, reduceIte, axL]; rfl) ?_)
        | (with_reducible refine is_np ?_; first | refine n_postR rfl ?_ | refine n_postR (by simp only [Ax.result, Ax.resVs, Ax.resV, R9, Ax.look, sizeN, mkV, Nat.reduceEqDiff, reduceIte, axL]; rfl) ?_)
        | (first | with_reducible refine is_wd ?_ | with_reducible refine dk_wd ?_); refine go_dt _ (by simp only [Ax.runDK, Ax.runDT, Ax.runDops, Ax.run1d, Ax.recs, Ax.okPair, Ax.idsE, Ax.idsV, AOp.mems, AOp.isWrite, DRec.none, axD, Ax.runK, Ax.runOps, Ax.run1, Ax.wantA, Ax.step, Ax.ev, Ax.evs, Ax.evo, Ax.evp, Ax.look, Ax.putE, Ax.keepE, Ax.argsE, Ax.extr, Ax.binV, Ax.intBin, Ax.unV, Ax.addOff, Ax.sizeN, Ax.mkV, Ax.okV, reduceIte, Nat.reduceEqDiff, Nat.reduceAdd, Nat.reduceLeDiff, Nat.reduceLT, Nat.reduceSub, Nat.reduceMul, reduceCtorEq, Int.reduceEq, Int.reduceLT, Int.reduceLE, Int.reduceAdd, Int.reduceSub, Int.reduceNeg, Int.reduceToNat, undef, Value.cells, axL]; rfl) rfl ?_
        | (with_reducible first | refine end_reg (Ev.mono _ _) ?_ | refine end_dreg (Ev.mono _ _) ?_ | refine end_cond (Ev.mono _ _) ?_ | refine end_block (Ev.mono _ _) ?_ | refine end_loop (Ev.mono _ _) ?_))
    repeat' (with_reducible first | refine go_assoc ?_ (Ev.mono _ _) | refine go_skip ?_ | refine go_block ?_ | refine end_reg (Ev.mono _ _) ?_)
    refine go_callC _ (by simp only [Ax.runC, AOp.isCall, Ax.runK, Ax.runOps, Ax.run1, Ax.wantA, Ax.step, Ax.ev, Ax.evs, Ax.evo, Ax.evp, Ax.look, Ax.putE, Ax.keepE, Ax.argsE, Ax.extr, Ax.binV, Ax.intBin, Ax.unV, Ax.addOff, Ax.sizeN, Ax.mkV, Ax.okV, reduceIte, Nat.reduceEqDiff, Nat.reduceAdd, Nat.reduceLeDiff, Nat.reduceLT, Nat.reduceSub, Nat.reduceMul, reduceCtorEq, Int.reduceEq, Int.reduceLT, Int.reduceLE, Int.reduceAdd, Int.reduceSub, Int.reduceNeg, Int.reduceToNat, undef, Value.cells, axL]; rfl) rfl rfl (by simp only [Ax.wantA, Ax.look, reduceIte, Nat.reduceEqDiff, bq_t, bq_f, Bool.not_true, Bool.not_false]; try rfl) rfl (by simp only [Ax.runK, Ax.runOps, Ax.run1, Ax.wantA, Ax.step, Ax.ev, Ax.evs, Ax.evo, Ax.evp, Ax.look, Ax.putE, Ax.keepE, Ax.argsE, Ax.extr, Ax.binV, Ax.intBin, Ax.unV, Ax.addOff, Ax.sizeN, Ax.mkV, Ax.okV, reduceIte, Nat.reduceEqDiff, Nat.reduceAdd, Nat.reduceLeDiff, Nat.reduceLT, Nat.reduceSub, Nat.reduceMul, reduceCtorEq, Int.reduceEq, Int.reduceLT, Int.reduceLE, Int.reduceAdd, Int.reduceSub, Int.reduceNeg, Int.reduceToNat, undef, Value.cells, axL]; try rfl) ?_
    refine at_spec X (p := .pointer none) H1.pget hl n (fun h1 h2 => absurd ⟨h1, by simpa using h2⟩ hn) (fun _ => ?_) (fun h1 h2 => absurd ⟨h1, by simpa using h2⟩ hn)
    repeat' (first
        | (with_reducible first | refine go_assoc ?_ (Ev.mono _ _) | refine go_skip ?_ | refine go_fin ?_ | refine go_ret ?_ | refine go_ret0 ?_ | refine go_exit ?_ | refine go_exit0 ?_ | refine go_block ?_ | refine n_then ?_ | refine x_then ?_ | refine r_then ?_ | refine n_block ?_ | refine r_block ?_ | refine x_block ?_ | refine x_block_ne ?_ (by decide))
        | (with_reducible refine is_k ?_; refine go_k _ (by simp only [Ax.runK, Ax.runOps, Ax.run1, Ax.wantA, Ax.step, Ax.ev, Ax.evs, Ax.evo, Ax.evp, Ax.look, Ax.putE, Ax.keepE, Ax.argsE, Ax.extr, Ax.binV, Ax.intBin, Ax.unV, Ax.addOff, Ax.sizeN, Ax.mkV, Ax.okV, reduceIte, Nat.reduceEqDiff, Nat.reduceAdd, Nat.reduceLeDiff, Nat.reduceLT, Nat.reduceSub, Nat.reduceMul, reduceCtorEq, Int.reduceEq, Int.reduceLT, Int.reduceLE, Int.reduceAdd, Int.reduceSub, Int.reduceNeg, Int.reduceToNat, undef, Value.cells, axL]; rfl) rfl ?_)
        | (with_reducible refine cond_t ?_ ?_; · simp only [Ax.ev, Ax.look, reduceIte, Nat.reduceEqDiff])
        | (with_reducible refine cond_f ?_ ?_; · simp only [Ax.ev, Ax.look, reduceIte, Nat.reduceEqDiff])
        | (with_reducible refine is_rp ?_; first | refine r_postR rfl ?_ | refine r_postR (by simp only [Ax.result, Ax.resVs, Ax.resV, R9, Ax.look, sizeN, mkV, Nat.reduceEqDiff, reduceIte, axL]; rfl) ?_)
        | (with_reducible refine is_np ?_; first | refine n_postR rfl ?_ | refine n_postR (by simp only [Ax.result, Ax.resVs, Ax.resV, R9, Ax.look, sizeN, mkV, Nat.reduceEqDiff, reduceIte, axL]; rfl) ?_)
        | (first | with_reducible refine is_wd ?_ | with_reducible refine dk_wd ?_); refine go_dt _ (by simp only [Ax.runDK, Ax.runDT, Ax.runDops, Ax.run1d, Ax.recs, Ax.okPair, Ax.idsE, Ax.idsV, AOp.mems, AOp.isWrite, DRec.none, axD, Ax.runK, Ax.runOps, Ax.run1, Ax.wantA, Ax.step, Ax.ev, Ax.evs, Ax.evo, Ax.evp, Ax.look, Ax.putE, Ax.keepE, Ax.argsE, Ax.extr, Ax.binV, Ax.intBin, Ax.unV, Ax.addOff, Ax.sizeN, Ax.mkV, Ax.okV, reduceIte, Nat.reduceEqDiff, Nat.reduceAdd, Nat.reduceLeDiff, Nat.reduceLT, Nat.reduceSub, Nat.reduceMul, reduceCtorEq, Int.reduceEq, Int.reduceLT, Int.reduceLE, Int.reduceAdd, Int.reduceSub, Int.reduceNeg, Int.reduceToNat, undef, Value.cells, axL]; rfl) rfl ?_
        | (with_reducible first | refine end_reg (Ev.mono _ _) ?_ | refine end_dreg (Ev.mono _ _) ?_ | refine end_cond (Ev.mono _ _) ?_ | refine end_block (Ev.mono _ _) ?_ | refine end_loop (Ev.mono _ _) ?_))
    exact hq0 hn

theorem socket_spec (H : St R (LocksA L ms :: F) S) (n : Int) {Q : Value → AS → Prop}
    (hq0 : ¬ (0 ≤ n ∧ n < ms.length) → Q (.int .i64 0) S)
    (hq : ∀ k : Nat, n = k → ∀ hk : k < ms.length, Q (.int .i64 ms[k].socket) S) : Ev G X 12 [.pointer (some ⟨L, 0, none⟩), .int .i64 n] S Q := by
  by_cases hn : 0 ≤ n ∧ n < ms.length
  · obtain ⟨k, rfl⟩ : ∃ k : Nat, n = k := ⟨n.toNat, by omega⟩
    have hk : k < ms.length := by omega
    obtain ⟨lv, b, pre, post, rv, G', hL, hlv, hix, H1, back⟩ := LocksA.focus H hk
    have hb := H1.pget
    unfold lockC at hb
    refine Ev.fnR (rs := R12) (c := A12) rfl ?_; unfold A12
    repeat' (first
        | (with_reducible first | refine go_assoc ?_ (Ev.mono _ _) | refine go_skip ?_ | refine go_fin ?_ | refine go_ret ?_ | refine go_ret0 ?_ | refine go_exit ?_ | refine go_exit0 ?_ | refine go_block ?_ | refine n_then ?_ | refine x_then ?_ | refine r_then ?_ | refine n_block ?_ | refine r_block ?_ | refine x_block ?_ | refine x_block_ne ?_ (by decide))
        | (with_reducible refine is_k ?_; refine go_k _ (by simp only [Ax.runK, Ax.runOps, Ax.run1, Ax.wantA, Ax.step, Ax.ev, Ax.evs, Ax.evo, Ax.evp, Ax.look, Ax.putE, Ax.keepE, Ax.argsE, Ax.extr, Ax.binV, Ax.intBin, Ax.unV, Ax.addOff, Ax.sizeN, Ax.mkV, Ax.okV, reduceIte, Nat.reduceEqDiff, Nat.reduceAdd, Nat.reduceLeDiff, Nat.reduceLT, Nat.reduceSub, Nat.reduceMul, reduceCtorEq, Int.reduceEq, Int.reduceLT, Int.reduceLE, Int.reduceAdd, Int.reduceSub, Int.reduceNeg, Int.reduceToNat, undef, Value.cells, axL]; rfl) rfl ?_)
        | (with_reducible refine cond_t ?_ ?_; · simp only [Ax.ev, Ax.look, reduceIte, Nat.reduceEqDiff])
        | (with_reducible refine cond_f ?_ ?_; · simp only [Ax.ev, Ax.look, reduceIte, Nat.reduceEqDiff])
        | (with_reducible refine is_rp ?_; first | refine r_postR rfl ?_ | refine r_postR (by simp only [Ax.result, Ax.resVs, Ax.resV, R12, Ax.look, sizeN, mkV, Nat.reduceEqDiff, reduceIte, axL]; rfl) ?_)
        | (with_reducible refine is_np ?_; first | refine n_postR rfl ?_ | refine n_postR (by simp only [Ax.result, Ax.resVs, Ax.resV, R12, Ax.look, sizeN, mkV, Nat.reduceEqDiff, reduceIte, axL]; rfl) ?_)
        | (first | with_reducible refine is_wd ?_ | with_reducible refine dk_wd ?_); refine go_dt _ (by simp only [Ax.runDK, Ax.runDT, Ax.runDops, Ax.run1d, Ax.recs, Ax.okPair, Ax.idsE, Ax.idsV, AOp.mems, AOp.isWrite, DRec.none, axD, Ax.runK, Ax.runOps, Ax.run1, Ax.wantA, Ax.step, Ax.ev, Ax.evs, Ax.evo, Ax.evp, Ax.look, Ax.putE, Ax.keepE, Ax.argsE, Ax.extr, Ax.binV, Ax.intBin, Ax.unV, Ax.addOff, Ax.sizeN, Ax.mkV, Ax.okV, reduceIte, Nat.reduceEqDiff, Nat.reduceAdd, Nat.reduceLeDiff, Nat.reduceLT, Nat.reduceSub, Nat.reduceMul, reduceCtorEq, Int.reduceEq, Int.reduceLT, Int.reduceLE, Int.reduceAdd, Int.reduceSub, Int.reduceNeg, Int.reduceToNat, undef, Value.cells, axL]; rfl) rfl ?_
        | (with_reducible first | refine end_reg (Ev.mono _ _) ?_ | refine end_dreg (Ev.mono _ _) ?_ | refine end_cond (Ev.mono _ _) ?_ | refine end_block (Ev.mono _ _) ?_ | refine end_loop (Ev.mono _ _) ?_))
    repeat' (with_reducible first | refine go_assoc ?_ (Ev.mono _ _) | refine go_skip ?_ | refine go_block ?_ | refine end_reg (Ev.mono _ _) ?_)
    refine go_callC _ (by simp only [Ax.runC, AOp.isCall, Ax.runK, Ax.runOps, Ax.run1, Ax.wantA, Ax.step, Ax.ev, Ax.evs, Ax.evo, Ax.evp, Ax.look, Ax.putE, Ax.keepE, Ax.argsE, Ax.extr, Ax.binV, Ax.intBin, Ax.unV, Ax.addOff, Ax.sizeN, Ax.mkV, Ax.okV, reduceIte, Nat.reduceEqDiff, Nat.reduceAdd, Nat.reduceLeDiff, Nat.reduceLT, Nat.reduceSub, Nat.reduceMul, reduceCtorEq, Int.reduceEq, Int.reduceLT, Int.reduceLE, Int.reduceAdd, Int.reduceSub, Int.reduceNeg, Int.reduceToNat, undef, Value.cells, axL]; rfl) rfl rfl (by simp only [Ax.wantA, Ax.look, reduceIte, Nat.reduceEqDiff, bq_t, bq_f, Bool.not_true, Bool.not_false]; try rfl) rfl (by simp only [Ax.runK, Ax.runOps, Ax.run1, Ax.wantA, Ax.step, Ax.ev, Ax.evs, Ax.evo, Ax.evp, Ax.look, Ax.putE, Ax.keepE, Ax.argsE, Ax.extr, Ax.binV, Ax.intBin, Ax.unV, Ax.addOff, Ax.sizeN, Ax.mkV, Ax.okV, reduceIte, Nat.reduceEqDiff, Nat.reduceAdd, Nat.reduceLeDiff, Nat.reduceLT, Nat.reduceSub, Nat.reduceMul, reduceCtorEq, Int.reduceEq, Int.reduceLT, Int.reduceLE, Int.reduceAdd, Int.reduceSub, Int.reduceNeg, Int.reduceToNat, undef, Value.cells, axL]; try rfl) ?_
    refine at_spec X hL hlv k (fun _ _ => hix .i64) (fun h => absurd hn h) (fun _ _ => ?_)
    repeat' (first
        | (with_reducible first | refine go_assoc ?_ (Ev.mono _ _) | refine go_skip ?_ | refine go_fin ?_ | refine go_ret ?_ | refine go_ret0 ?_ | refine go_exit ?_ | refine go_exit0 ?_ | refine go_block ?_ | refine n_then ?_ | refine x_then ?_ | refine r_then ?_ | refine n_block ?_ | refine r_block ?_ | refine x_block ?_ | refine x_block_ne ?_ (by decide))
        | (with_reducible refine is_k ?_; refine go_k _ (by simp only [Ax.runK, Ax.runOps, Ax.run1, Ax.wantA, Ax.step, Ax.ev, Ax.evs, Ax.evo, Ax.evp, Ax.look, Ax.putE, Ax.keepE, Ax.argsE, Ax.extr, Ax.binV, Ax.intBin, Ax.unV, Ax.addOff, Ax.sizeN, Ax.mkV, Ax.okV, reduceIte, Nat.reduceEqDiff, Nat.reduceAdd, Nat.reduceLeDiff, Nat.reduceLT, Nat.reduceSub, Nat.reduceMul, reduceCtorEq, Int.reduceEq, Int.reduceLT, Int.reduceLE, Int.reduceAdd, Int.reduceSub, Int.reduceNeg, Int.reduceToNat, undef, Value.cells, axL, get1 hb]; rfl) rfl ?_)
        | (with_reducible refine cond_t ?_ ?_; · simp only [Ax.ev, Ax.look, reduceIte, Nat.reduceEqDiff])
        | (with_reducible refine cond_f ?_ ?_; · simp only [Ax.ev, Ax.look, reduceIte, Nat.reduceEqDiff])
        | (with_reducible refine is_rp ?_; first | refine r_postR rfl ?_ | refine r_postR (by simp only [Ax.result, Ax.resVs, Ax.resV, R12, Ax.look, sizeN, mkV, Nat.reduceEqDiff, reduceIte, axL, get1 hb]; rfl) ?_)
        | (with_reducible refine is_np ?_; first | refine n_postR rfl ?_ | refine n_postR (by simp only [Ax.result, Ax.resVs, Ax.resV, R12, Ax.look, sizeN, mkV, Nat.reduceEqDiff, reduceIte, axL, get1 hb]; rfl) ?_)
        | (first | with_reducible refine is_wd ?_ | with_reducible refine dk_wd ?_); refine go_dt _ (by simp only [Ax.runDK, Ax.runDT, Ax.runDops, Ax.run1d, Ax.recs, Ax.okPair, Ax.idsE, Ax.idsV, AOp.mems, AOp.isWrite, DRec.none, axD, Ax.runK, Ax.runOps, Ax.run1, Ax.wantA, Ax.step, Ax.ev, Ax.evs, Ax.evo, Ax.evp, Ax.look, Ax.putE, Ax.keepE, Ax.argsE, Ax.extr, Ax.binV, Ax.intBin, Ax.unV, Ax.addOff, Ax.sizeN, Ax.mkV, Ax.okV, reduceIte, Nat.reduceEqDiff, Nat.reduceAdd, Nat.reduceLeDiff, Nat.reduceLT, Nat.reduceSub, Nat.reduceMul, reduceCtorEq, Int.reduceEq, Int.reduceLT, Int.reduceLE, Int.reduceAdd, Int.reduceSub, Int.reduceNeg, Int.reduceToNat, undef, Value.cells, axL, get1 hb]; rfl) rfl ?_
        | (with_reducible first | refine end_reg (Ev.mono _ _) ?_ | refine end_dreg (Ev.mono _ _) ?_ | refine end_cond (Ev.mono _ _) ?_ | refine end_block (Ev.mono _ _) ?_ | refine end_loop (Ev.mono _ _) ?_))
    exact hq k rfl hk
  · obtain ⟨lv, ps, rfl, H1⟩ := LocksA.open' H
    have hl := SlT.len (H1.pick 2 [1] rfl)
    refine Ev.fnR (rs := R12) (c := A12) rfl ?_; unfold A12
    repeat' (first
        | (with_reducible first | refine go_assoc ?_ (Ev.mono _ _) | refine go_skip ?_ | refine go_fin ?_ | refine go_ret ?_ | refine go_ret0 ?_ | refine go_exit ?_ | refine go_exit0 ?_ | refine go_block ?_ | refine n_then ?_ | refine x_then ?_ | refine r_then ?_ | refine n_block ?_ | refine r_block ?_ | refine x_block ?_ | refine x_block_ne ?_ (by decide))
        | (with_reducible refine is_k ?_; refine go_k _ (by simp only [Ax.runK, Ax.runOps, Ax.run1, Ax.wantA, Ax.step, Ax.ev, Ax.evs, Ax.evo, Ax.evp, Ax.look, Ax.putE, Ax.keepE, Ax.argsE, Ax.extr, Ax.binV, Ax.intBin, Ax.unV, Ax.addOff, Ax.sizeN, Ax.mkV, Ax.okV, reduceIte, Nat.reduceEqDiff, Nat.reduceAdd, Nat.reduceLeDiff, Nat.reduceLT, Nat.reduceSub, Nat.reduceMul, reduceCtorEq, Int.reduceEq, Int.reduceLT, Int.reduceLE, Int.reduceAdd, Int.reduceSub, Int.reduceNeg, Int.reduceToNat, undef, Value.cells, axL]; rfl) rfl ?_)
        | (with_reducible refine cond_t ?_ ?_; · simp only [Ax.ev, Ax.look, reduceIte, Nat.reduceEqDiff])
        | (with_reducible refine cond_f ?_ ?_; · simp only [Ax.ev, Ax.look, reduceIte, Nat.reduceEqDiff])
        | (with_reducible refine is_rp ?_; first | refine r_postR rfl ?_ | refine r_postR (by simp only [Ax.result, Ax.resVs, Ax.resV, R12, Ax.look, sizeN, mkV, Nat.reduceEqDiff, reduceIte, axL]; rfl) ?_)
        | (with_reducible refine is_np ?_; first | refine n_postR rfl ?_ | refine n_postR (by simp only [Ax.result, Ax.resVs, Ax.resV, R12, Ax.look, sizeN, mkV, Nat.reduceEqDiff, reduceIte, axL]; rfl) ?_)
        | (first | with_reducible refine is_wd ?_ | with_reducible refine dk_wd ?_); refine go_dt _ (by simp only [Ax.runDK, Ax.runDT, Ax.runDops, Ax.run1d, Ax.recs, Ax.okPair, Ax.idsE, Ax.idsV, AOp.mems, AOp.isWrite, DRec.none, axD, Ax.runK, Ax.runOps, Ax.run1, Ax.wantA, Ax.step, Ax.ev, Ax.evs, Ax.evo, Ax.evp, Ax.look, Ax.putE, Ax.keepE, Ax.argsE, Ax.extr, Ax.binV, Ax.intBin, Ax.unV, Ax.addOff, Ax.sizeN, Ax.mkV, Ax.okV, reduceIte, Nat.reduceEqDiff, Nat.reduceAdd, Nat.reduceLeDiff, Nat.reduceLT, Nat.reduceSub, Nat.reduceMul, reduceCtorEq, Int.reduceEq, Int.reduceLT, Int.reduceLE, Int.reduceAdd, Int.reduceSub, Int.reduceNeg, Int.reduceToNat, undef, Value.cells, axL]; rfl) rfl ?_
        | (with_reducible first | refine end_reg (Ev.mono _ _) ?_ | refine end_dreg (Ev.mono _ _) ?_ | refine end_cond (Ev.mono _ _) ?_ | refine end_block (Ev.mono _ _) ?_ | refine end_loop (Ev.mono _ _) ?_))
    repeat' (with_reducible first | refine go_assoc ?_ (Ev.mono _ _) | refine go_skip ?_ | refine go_block ?_ | refine end_reg (Ev.mono _ _) ?_)
    refine go_callC _ (by simp only [Ax.runC, AOp.isCall, Ax.runK, Ax.runOps, Ax.run1, Ax.wantA, Ax.step, Ax.ev, Ax.evs, Ax.evo, Ax.evp, Ax.look, Ax.putE, Ax.keepE, Ax.argsE, Ax.extr, Ax.binV, Ax.intBin, Ax.unV, Ax.addOff, Ax.sizeN, Ax.mkV, Ax.okV, reduceIte, Nat.reduceEqDiff, Nat.reduceAdd, Nat.reduceLeDiff, Nat.reduceLT, Nat.reduceSub, Nat.reduceMul, reduceCtorEq, Int.reduceEq, Int.reduceLT, Int.reduceLE, Int.reduceAdd, Int.reduceSub, Int.reduceNeg, Int.reduceToNat, undef, Value.cells, axL]; rfl) rfl rfl (by simp only [Ax.wantA, Ax.look, reduceIte, Nat.reduceEqDiff, bq_t, bq_f, Bool.not_true, Bool.not_false]; try rfl) rfl (by simp only [Ax.runK, Ax.runOps, Ax.run1, Ax.wantA, Ax.step, Ax.ev, Ax.evs, Ax.evo, Ax.evp, Ax.look, Ax.putE, Ax.keepE, Ax.argsE, Ax.extr, Ax.binV, Ax.intBin, Ax.unV, Ax.addOff, Ax.sizeN, Ax.mkV, Ax.okV, reduceIte, Nat.reduceEqDiff, Nat.reduceAdd, Nat.reduceLeDiff, Nat.reduceLT, Nat.reduceSub, Nat.reduceMul, reduceCtorEq, Int.reduceEq, Int.reduceLT, Int.reduceLE, Int.reduceAdd, Int.reduceSub, Int.reduceNeg, Int.reduceToNat, undef, Value.cells, axL]; try rfl) ?_
    refine at_spec X (p := .pointer none) H1.pget hl n (fun h1 h2 => absurd ⟨h1, by simpa using h2⟩ hn) (fun _ => ?_) (fun h1 h2 => absurd ⟨h1, by simpa using h2⟩ hn)
    repeat' (first
        | (with_reducible first | refine go_assoc ?_ (Ev.mono _ _) | refine go_skip ?_ | refine go_fin ?_ | refine go_ret ?_ | refine go_ret0 ?_ | refine go_exit ?_ | refine go_exit0 ?_ | refine go_block ?_ | refine n_then ?_ | refine x_then ?_ | refine r_then ?_ | refine n_block ?_ | refine r_block ?_ | refine x_block ?_ | refine x_block_ne ?_ (by decide))
        | (with_reducible refine is_k ?_; refine go_k _ (by simp only [Ax.runK, Ax.runOps, Ax.run1, Ax.wantA, Ax.step, Ax.ev, Ax.evs, Ax.evo, Ax.evp, Ax.look, Ax.putE, Ax.keepE, Ax.argsE, Ax.extr, Ax.binV, Ax.intBin, Ax.unV, Ax.addOff, Ax.sizeN, Ax.mkV, Ax.okV, reduceIte, Nat.reduceEqDiff, Nat.reduceAdd, Nat.reduceLeDiff, Nat.reduceLT, Nat.reduceSub, Nat.reduceMul, reduceCtorEq, Int.reduceEq, Int.reduceLT, Int.reduceLE, Int.reduceAdd, Int.reduceSub, Int.reduceNeg, Int.reduceToNat, undef, Value.cells, axL]; rfl) rfl ?_)
        | (with_reducible refine cond_t ?_ ?_; · simp only [Ax.ev, Ax.look, reduceIte, Nat.reduceEqDiff])
        | (with_reducible refine cond_f ?_ ?_; · simp only [Ax.ev, Ax.look, reduceIte, Nat.reduceEqDiff])
        | (with_reducible refine is_rp ?_; first | refine r_postR rfl ?_ | refine r_postR (by simp only [Ax.result, Ax.resVs, Ax.resV, R12, Ax.look, sizeN, mkV, Nat.reduceEqDiff, reduceIte, axL]; rfl) ?_)
        | (with_reducible refine is_np ?_; first | refine n_postR rfl ?_ | refine n_postR (by simp only [Ax.result, Ax.resVs, Ax.resV, R12, Ax.look, sizeN, mkV, Nat.reduceEqDiff, reduceIte, axL]; rfl) ?_)
        | (first | with_reducible refine is_wd ?_ | with_reducible refine dk_wd ?_); refine go_dt _ (by simp only [Ax.runDK, Ax.runDT, Ax.runDops, Ax.run1d, Ax.recs, Ax.okPair, Ax.idsE, Ax.idsV, AOp.mems, AOp.isWrite, DRec.none, axD, Ax.runK, Ax.runOps, Ax.run1, Ax.wantA, Ax.step, Ax.ev, Ax.evs, Ax.evo, Ax.evp, Ax.look, Ax.putE, Ax.keepE, Ax.argsE, Ax.extr, Ax.binV, Ax.intBin, Ax.unV, Ax.addOff, Ax.sizeN, Ax.mkV, Ax.okV, reduceIte, Nat.reduceEqDiff, Nat.reduceAdd, Nat.reduceLeDiff, Nat.reduceLT, Nat.reduceSub, Nat.reduceMul, reduceCtorEq, Int.reduceEq, Int.reduceLT, Int.reduceLE, Int.reduceAdd, Int.reduceSub, Int.reduceNeg, Int.reduceToNat, undef, Value.cells, axL]; rfl) rfl ?_
        | (with_reducible first | refine end_reg (Ev.mono _ _) ?_ | refine end_dreg (Ev.mono _ _) ?_ | refine end_cond (Ev.mono _ _) ?_ | refine end_block (Ev.mono _ _) ?_ | refine end_loop (Ev.mono _ _) ?_))
    exact hq0 hn

theorem lenL_spec (H : St R (LocksA L ms :: F) S) {Q : Value → AS → Prop} (hq : Q (.int .i64 ms.length) S) : Ev G X 16 [.pointer (some ⟨L, 0, none⟩)] S Q := by
  obtain ⟨lv, ps, rfl, H1⟩ := LocksA.open' H
  have hl := SlT.len (H1.pick 2 [1] rfl)
  refine len14_spec X H1.pget hl ?_
  simpa using hq

/-- Who waits, by rows. -/
def waitL (m : LockM) : List Int := m.rows.flatMap (·.2)

theorem waiting_spec (H : St R (LocksA L ms :: F) S) (hs : ∀ m ∈ ms, Small m) (hw : ∀ m ∈ ms, (waitL m).length < 1000000) (n : Int) {Q : Value → AS → Prop}
    (hq0 : ¬ (0 ≤ n ∧ n < ms.length) → Q (.slice none 0 0) S)
    (hq : ∀ k : Nat, n = k → ∀ hk : k < ms.length, ∀ v S', St R (SlT v (waitL ms[k]) :: LocksA L ms :: F) S' → Q v S') : Ev G X 13 [.pointer (some ⟨L, 0, none⟩), .int .i64 n] S Q := by
  by_cases hn : 0 ≤ n ∧ n < ms.length
  · obtain ⟨k, rfl⟩ : ∃ k : Nat, n = k := ⟨n.toNat, by omega⟩
    have hk : k < ms.length := by omega
    obtain ⟨lv, b, pre, post, rv, Gs, hL, hlv, hix, H1, back⟩ := LocksA.focus' H hk
    have hqq := hq k rfl hk
    have hww := hw _ (List.getElem_mem hk)
    have hsm := hs _ (List.getElem_mem hk)
    have hset : ms.set k ms[k] = ms := by simp
    generalize hm : ms[k] = m at H1 hqq hww hsm
    have hb := H1.pget
    unfold lockC at hb
    obtain ⟨ps, hps, H2⟩ := RoundA.open' (H1.pick 2 [1, 0] rfl)
    have hlr := SlT.len H2
    refine Ev.fnR (rs := R13) (c := A13) rfl ?_; unfold A13
    repeat' (first
        | (with_reducible first | refine go_assoc ?_ (Ev.mono _ _) | refine go_skip ?_ | refine go_fin ?_ | refine go_ret ?_ | refine go_ret0 ?_ | refine go_exit ?_ | refine go_exit0 ?_ | refine go_block ?_ | refine n_then ?_ | refine x_then ?_ | refine r_then ?_ | refine n_block ?_ | refine r_block ?_ | refine x_block ?_ | refine x_block_ne ?_ (by decide))
        | (with_reducible refine is_k ?_; refine go_k _ (by simp only [Ax.runK, Ax.runOps, Ax.run1, Ax.wantA, Ax.step, Ax.ev, Ax.evs, Ax.evo, Ax.evp, Ax.look, Ax.putE, Ax.keepE, Ax.argsE, Ax.extr, Ax.binV, Ax.intBin, Ax.unV, Ax.addOff, Ax.sizeN, Ax.mkV, Ax.okV, reduceIte, Nat.reduceEqDiff, Nat.reduceAdd, Nat.reduceLeDiff, Nat.reduceLT, Nat.reduceSub, Nat.reduceMul, reduceCtorEq, Int.reduceEq, Int.reduceLT, Int.reduceLE, Int.reduceAdd, Int.reduceSub, Int.reduceNeg, Int.reduceToNat, undef, Value.cells, axL]; rfl) rfl ?_)
        | (with_reducible refine cond_t ?_ ?_; · simp only [Ax.ev, Ax.look, reduceIte, Nat.reduceEqDiff])
        | (with_reducible refine cond_f ?_ ?_; · simp only [Ax.ev, Ax.look, reduceIte, Nat.reduceEqDiff])
        | (with_reducible refine is_rp ?_; first | refine r_postR rfl ?_ | refine r_postR (by simp only [Ax.result, Ax.resVs, Ax.resV, R13, Ax.look, sizeN, mkV, Nat.reduceEqDiff, reduceIte, axL]; rfl) ?_)
        | (with_reducible refine is_np ?_; first | refine n_postR rfl ?_ | refine n_postR (by simp only [Ax.result, Ax.resVs, Ax.resV, R13, Ax.look, sizeN, mkV, Nat.reduceEqDiff, reduceIte, axL]; rfl) ?_)
        | (first | with_reducible refine is_wd ?_ | with_reducible refine dk_wd ?_); refine go_dt _ (by simp only [Ax.runDK, Ax.runDT, Ax.runDops, Ax.run1d, Ax.recs, Ax.okPair, Ax.idsE, Ax.idsV, AOp.mems, AOp.isWrite, DRec.none, axD, Ax.runK, Ax.runOps, Ax.run1, Ax.wantA, Ax.step, Ax.ev, Ax.evs, Ax.evo, Ax.evp, Ax.look, Ax.putE, Ax.keepE, Ax.argsE, Ax.extr, Ax.binV, Ax.intBin, Ax.unV, Ax.addOff, Ax.sizeN, Ax.mkV, Ax.okV, reduceIte, Nat.reduceEqDiff, Nat.reduceAdd, Nat.reduceLeDiff, Nat.reduceLT, Nat.reduceSub, Nat.reduceMul, reduceCtorEq, Int.reduceEq, Int.reduceLT, Int.reduceLE, Int.reduceAdd, Int.reduceSub, Int.reduceNeg, Int.reduceToNat, undef, Value.cells, axL]; rfl) rfl ?_
        | (with_reducible first | refine end_reg (Ev.mono _ _) ?_ | refine end_dreg (Ev.mono _ _) ?_ | refine end_cond (Ev.mono _ _) ?_ | refine end_block (Ev.mono _ _) ?_ | refine end_loop (Ev.mono _ _) ?_))
    repeat' (with_reducible first | refine go_assoc ?_ (Ev.mono _ _) | refine go_skip ?_ | refine go_block ?_ | refine end_reg (Ev.mono _ _) ?_)
    refine go_callC _ (by simp only [Ax.runC, AOp.isCall, Ax.runK, Ax.runOps, Ax.run1, Ax.wantA, Ax.step, Ax.ev, Ax.evs, Ax.evo, Ax.evp, Ax.look, Ax.putE, Ax.keepE, Ax.argsE, Ax.extr, Ax.binV, Ax.intBin, Ax.unV, Ax.addOff, Ax.sizeN, Ax.mkV, Ax.okV, reduceIte, Nat.reduceEqDiff, Nat.reduceAdd, Nat.reduceLeDiff, Nat.reduceLT, Nat.reduceSub, Nat.reduceMul, reduceCtorEq, Int.reduceEq, Int.reduceLT, Int.reduceLE, Int.reduceAdd, Int.reduceSub, Int.reduceNeg, Int.reduceToNat, undef, Value.cells, axL]; rfl) rfl rfl (by simp only [Ax.wantA, Ax.look, reduceIte, Nat.reduceEqDiff, bq_t, bq_f, Bool.not_true, Bool.not_false]; try rfl) rfl (by simp only [Ax.runK, Ax.runOps, Ax.run1, Ax.wantA, Ax.step, Ax.ev, Ax.evs, Ax.evo, Ax.evp, Ax.look, Ax.putE, Ax.keepE, Ax.argsE, Ax.extr, Ax.binV, Ax.intBin, Ax.unV, Ax.addOff, Ax.sizeN, Ax.mkV, Ax.okV, reduceIte, Nat.reduceEqDiff, Nat.reduceAdd, Nat.reduceLeDiff, Nat.reduceLT, Nat.reduceSub, Nat.reduceMul, reduceCtorEq, Int.reduceEq, Int.reduceLT, Int.reduceLE, Int.reduceAdd, Int.reduceSub, Int.reduceNeg, Int.reduceToNat, undef, Value.cells, axL]; try rfl) ?_
    refine at_spec X hL hlv k (fun _ _ => hix .i64) (fun h => absurd hn h) (fun _ _ => ?_)
    repeat' (first
        | (with_reducible first | refine go_assoc ?_ (Ev.mono _ _) | refine go_skip ?_ | refine go_fin ?_ | refine go_ret ?_ | refine go_ret0 ?_ | refine go_exit ?_ | refine go_exit0 ?_ | refine go_block ?_ | refine n_then ?_ | refine x_then ?_ | refine r_then ?_ | refine n_block ?_ | refine r_block ?_ | refine x_block ?_ | refine x_block_ne ?_ (by decide))
        | (with_reducible refine is_k ?_; refine go_k _ (by simp only [Ax.runK, Ax.runOps, Ax.run1, Ax.wantA, Ax.step, Ax.ev, Ax.evs, Ax.evo, Ax.evp, Ax.look, Ax.putE, Ax.keepE, Ax.argsE, Ax.extr, Ax.binV, Ax.intBin, Ax.unV, Ax.addOff, Ax.sizeN, Ax.mkV, Ax.okV, reduceIte, Nat.reduceEqDiff, Nat.reduceAdd, Nat.reduceLeDiff, Nat.reduceLT, Nat.reduceSub, Nat.reduceMul, reduceCtorEq, Int.reduceEq, Int.reduceLT, Int.reduceLE, Int.reduceAdd, Int.reduceSub, Int.reduceNeg, Int.reduceToNat, undef, Value.cells, axL, get1 hb, hlr]; rfl) rfl ?_)
        | (with_reducible refine cond_t ?_ ?_; · simp only [Ax.ev, Ax.look, reduceIte, Nat.reduceEqDiff])
        | (with_reducible refine cond_f ?_ ?_; · simp only [Ax.ev, Ax.look, reduceIte, Nat.reduceEqDiff])
        | (with_reducible refine is_rp ?_; first | refine r_postR rfl ?_ | refine r_postR (by simp only [Ax.result, Ax.resVs, Ax.resV, R13, Ax.look, sizeN, mkV, Nat.reduceEqDiff, reduceIte, axL, get1 hb, hlr]; rfl) ?_)
        | (with_reducible refine is_np ?_; first | refine n_postR rfl ?_ | refine n_postR (by simp only [Ax.result, Ax.resVs, Ax.resV, R13, Ax.look, sizeN, mkV, Nat.reduceEqDiff, reduceIte, axL, get1 hb, hlr]; rfl) ?_)
        | (first | with_reducible refine is_wd ?_ | with_reducible refine dk_wd ?_); refine go_dt _ (by simp only [Ax.runDK, Ax.runDT, Ax.runDops, Ax.run1d, Ax.recs, Ax.okPair, Ax.idsE, Ax.idsV, AOp.mems, AOp.isWrite, DRec.none, axD, Ax.runK, Ax.runOps, Ax.run1, Ax.wantA, Ax.step, Ax.ev, Ax.evs, Ax.evo, Ax.evp, Ax.look, Ax.putE, Ax.keepE, Ax.argsE, Ax.extr, Ax.binV, Ax.intBin, Ax.unV, Ax.addOff, Ax.sizeN, Ax.mkV, Ax.okV, reduceIte, Nat.reduceEqDiff, Nat.reduceAdd, Nat.reduceLeDiff, Nat.reduceLT, Nat.reduceSub, Nat.reduceMul, reduceCtorEq, Int.reduceEq, Int.reduceLT, Int.reduceLE, Int.reduceAdd, Int.reduceSub, Int.reduceNeg, Int.reduceToNat, undef, Value.cells, axL, get1 hb, hlr]; rfl) rfl ?_
        | (with_reducible first | refine end_reg (Ev.mono _ _) ?_ | refine end_dreg (Ev.mono _ _) ?_ | refine end_cond (Ev.mono _ _) ?_ | refine end_block (Ev.mono _ _) ?_ | refine end_loop (Ev.mono _ _) ?_))
    have H3 : St R (SlT (.slice none 0 0) ([] : List Int) :: SlT rv ps :: (ps.map RowP.a ++ (pts b (pre ++ lockC m rv ++ post) :: (Gs ++ F)))) S := SlT.nil (α := Int) H2
    have hlen : ps.length < 1000000 ∨ True := .inr trivial
    refine go_loop (Ev.mono _ _) (fun (g : Nat × Value × List Int) ρ S' => g.1 ≤ ps.length ∧ g.2.2 = (ps.take g.1).flatMap RowP.tasks ∧ ρ = [(18, .int .i64 g.1), (4, g.2.1), (16, rv), (17, .int .i64 ps.length)] ∧ St R (SlT g.2.1 g.2.2 :: SlT rv ps :: (ps.map RowP.a ++ (pts b (pre ++ lockC m rv ++ post) :: (Gs ++ F)))) S') (fun g => ps.length - g.1) (0, .slice none 0 0, []) ⟨Nat.zero_le _, by simp, rfl, H3⟩ ?_
    rintro ⟨i, ov, acc⟩ ρ S1 ⟨hi, hacc, rfl, H4⟩
    dsimp only at hi hacc H4
    have hwe : waitL m = ps.flatMap RowP.tasks := by unfold waitL; rw [hps, List.flatMap_map]; rfl
    repeat' (first
        | (with_reducible first | refine go_assoc ?_ (Ev.mono _ _) | refine go_skip ?_ | refine go_fin ?_ | refine go_ret ?_ | refine go_ret0 ?_ | refine go_exit ?_ | refine go_exit0 ?_ | refine go_block ?_ | refine n_then ?_ | refine x_then ?_ | refine r_then ?_ | refine n_block ?_ | refine r_block ?_ | refine x_block ?_ | refine x_block_ne ?_ (by decide))
        | (with_reducible refine is_k ?_; refine go_k _ (by simp only [Ax.runK, Ax.runOps, Ax.run1, Ax.wantA, Ax.step, Ax.ev, Ax.evs, Ax.evo, Ax.evp, Ax.look, Ax.putE, Ax.keepE, Ax.argsE, Ax.extr, Ax.binV, Ax.intBin, Ax.unV, Ax.addOff, Ax.sizeN, Ax.mkV, Ax.okV, reduceIte, Nat.reduceEqDiff, Nat.reduceAdd, Nat.reduceLeDiff, Nat.reduceLT, Nat.reduceSub, Nat.reduceMul, reduceCtorEq, Int.reduceEq, Int.reduceLT, Int.reduceLE, Int.reduceAdd, Int.reduceSub, Int.reduceNeg, Int.reduceToNat, undef, Value.cells, axL]; rfl) rfl ?_)
        | (with_reducible refine cond_t ?_ ?_; · simp only [Ax.ev, Ax.look, reduceIte, Nat.reduceEqDiff])
        | (with_reducible refine cond_f ?_ ?_; · simp only [Ax.ev, Ax.look, reduceIte, Nat.reduceEqDiff])
        | (with_reducible refine is_rp ?_; first | refine r_postR rfl ?_ | refine r_postR (by simp only [Ax.result, Ax.resVs, Ax.resV, R13, Ax.look, sizeN, mkV, Nat.reduceEqDiff, reduceIte, axL]; rfl) ?_)
        | (with_reducible refine is_np ?_; first | refine n_postR rfl ?_ | refine n_postR (by simp only [Ax.result, Ax.resVs, Ax.resV, R13, Ax.look, sizeN, mkV, Nat.reduceEqDiff, reduceIte, axL]; rfl) ?_)
        | (first | with_reducible refine is_wd ?_ | with_reducible refine dk_wd ?_); refine go_dt _ (by simp only [Ax.runDK, Ax.runDT, Ax.runDops, Ax.run1d, Ax.recs, Ax.okPair, Ax.idsE, Ax.idsV, AOp.mems, AOp.isWrite, DRec.none, axD, Ax.runK, Ax.runOps, Ax.run1, Ax.wantA, Ax.step, Ax.ev, Ax.evs, Ax.evo, Ax.evp, Ax.look, Ax.putE, Ax.keepE, Ax.argsE, Ax.extr, Ax.binV, Ax.intBin, Ax.unV, Ax.addOff, Ax.sizeN, Ax.mkV, Ax.okV, reduceIte, Nat.reduceEqDiff, Nat.reduceAdd, Nat.reduceLeDiff, Nat.reduceLT, Nat.reduceSub, Nat.reduceMul, reduceCtorEq, Int.reduceEq, Int.reduceLT, Int.reduceLE, Int.reduceAdd, Int.reduceSub, Int.reduceNeg, Int.reduceToNat, undef, Value.cells, axL]; rfl) rfl ?_
        | (with_reducible first | refine end_reg (Ev.mono _ _) ?_ | refine end_dreg (Ev.mono _ _) ?_ | refine end_cond (Ev.mono _ _) ?_ | refine end_block (Ev.mono _ _) ?_ | refine end_loop (Ev.mono _ _) ?_))
    refine cond_d rfl (fun hlt => ?_) (fun hlt => ?_)
    · have hil : i < ps.length := by omega
      have wi : IntKind.wrap .i64 ((i : Int) + 1) = ((i + 1 : Nat) : Int) := wrapI (n := (i : Int) + 1) (by unfold I64; have := hsm.1; rw [hps] at this; simp at this; omega)
      obtain ⟨b1, a1, e1, e2, e3, e4⟩ := RdT.at (SlT.read (H4.pick 2 [1] rfl)) hil .i64
      rw [enc_row] at e3
      have hsplit : (ps.take (i + 1)).flatMap RowP.tasks = acc ++ ps[i].tasks := by
        rw [hacc, List.take_succ_eq_append_getElem hil, List.flatMap_append]; simp
      have hle : (acc ++ ps[i].tasks).length < 1000000 := by
        have h1 : (ps.take (i + 1)).flatMap RowP.tasks ++ (ps.drop (i + 1)).flatMap RowP.tasks = ps.flatMap RowP.tasks := by
          rw [← List.flatMap_append, List.take_append_drop]
        have h2 := congrArg List.length h1
        rw [List.length_append, ← hwe, hsplit] at h2
        omega
      have H5 := H4.newc [.int .i64 ps[i].socket, ps[i].tv]
      obtain ⟨S2, hS2⟩ : ∃ S2, S2 = S1.new (.cells false [.int .i64 ps[i].socket, ps[i].tv]) := ⟨_, rfl⟩
      rw [← hS2] at H5
      have hrd := St.focus (f := RowP.a) hil (F := pts b (pre ++ lockC m rv ++ post) :: (Gs ++ F)) ((H5.pick 3 [] rfl))
      have hsrc := Rd.src (SlT.read hrd)
      obtain ⟨at', ct', hsh⟩ := SlT.shape hrd
      have hb7 := H5.pget
      obtain ⟨v', S3, g1, H6⟩ := SlT.append (H5.pick 3 [1, 2] rfl) (bytes := 8) (m := ps[i].tasks) hsrc (by rw [hsh]; rfl) (by rw [List.length_append] at hle; omega)
      repeat' (first
          | (with_reducible first | refine go_assoc ?_ (Ev.mono _ _) | refine go_skip ?_ | refine go_fin ?_ | refine go_ret ?_ | refine go_ret0 ?_ | refine go_exit ?_ | refine go_exit0 ?_ | refine go_block ?_ | refine n_then ?_ | refine x_then ?_ | refine r_then ?_ | refine n_block ?_ | refine r_block ?_ | refine x_block ?_ | refine x_block_ne ?_ (by decide))
          | (with_reducible refine is_k ?_; refine go_k _ (by simp only [Ax.runK, Ax.runOps, Ax.run1, Ax.wantA, Ax.step, Ax.ev, Ax.evs, Ax.evo, Ax.evp, Ax.look, Ax.putE, Ax.keepE, Ax.argsE, Ax.extr, Ax.binV, Ax.intBin, Ax.unV, Ax.addOff, Ax.sizeN, Ax.mkV, Ax.okV, reduceIte, Nat.reduceEqDiff, Nat.reduceAdd, Nat.reduceLeDiff, Nat.reduceLT, Nat.reduceSub, Nat.reduceMul, reduceCtorEq, Int.reduceEq, Int.reduceLT, Int.reduceLE, Int.reduceAdd, Int.reduceSub, Int.reduceNeg, Int.reduceToNat, undef, Value.cells, axL, e1, e3, ← hS2]; rfl) rfl ?_)
          | (with_reducible refine cond_t ?_ ?_; · simp only [Ax.ev, Ax.look, reduceIte, Nat.reduceEqDiff])
          | (with_reducible refine cond_f ?_ ?_; · simp only [Ax.ev, Ax.look, reduceIte, Nat.reduceEqDiff])
          | (with_reducible refine is_rp ?_; first | refine r_postR rfl ?_ | refine r_postR (by simp only [Ax.result, Ax.resVs, Ax.resV, R13, Ax.look, sizeN, mkV, Nat.reduceEqDiff, reduceIte, axL, e1, e3, ← hS2]; rfl) ?_)
          | (with_reducible refine is_np ?_; first | refine n_postR rfl ?_ | refine n_postR (by simp only [Ax.result, Ax.resVs, Ax.resV, R13, Ax.look, sizeN, mkV, Nat.reduceEqDiff, reduceIte, axL, e1, e3, ← hS2]; rfl) ?_)
          | (first | with_reducible refine is_wd ?_ | with_reducible refine dk_wd ?_); refine go_dt _ (by simp only [Ax.runDK, Ax.runDT, Ax.runDops, Ax.run1d, Ax.recs, Ax.okPair, Ax.idsE, Ax.idsV, AOp.mems, AOp.isWrite, DRec.none, axD, Ax.runK, Ax.runOps, Ax.run1, Ax.wantA, Ax.step, Ax.ev, Ax.evs, Ax.evo, Ax.evp, Ax.look, Ax.putE, Ax.keepE, Ax.argsE, Ax.extr, Ax.binV, Ax.intBin, Ax.unV, Ax.addOff, Ax.sizeN, Ax.mkV, Ax.okV, reduceIte, Nat.reduceEqDiff, Nat.reduceAdd, Nat.reduceLeDiff, Nat.reduceLT, Nat.reduceSub, Nat.reduceMul, reduceCtorEq, Int.reduceEq, Int.reduceLT, Int.reduceLE, Int.reduceAdd, Int.reduceSub, Int.reduceNeg, Int.reduceToNat, undef, Value.cells, axL, e1, e3, ← hS2]; rfl) rfl ?_
          | (with_reducible first | refine end_reg (Ev.mono _ _) ?_ | refine end_dreg (Ev.mono _ _) ?_ | refine end_cond (Ev.mono _ _) ?_ | refine end_block (Ev.mono _ _) ?_ | refine end_loop (Ev.mono _ _) ?_))
      repeat' (first
          | (with_reducible first | refine go_assoc ?_ (Ev.mono _ _) | refine go_skip ?_ | refine go_fin ?_ | refine go_ret ?_ | refine go_ret0 ?_ | refine go_exit ?_ | refine go_exit0 ?_ | refine go_block ?_ | refine n_then ?_ | refine x_then ?_ | refine r_then ?_ | refine n_block ?_ | refine r_block ?_ | refine x_block ?_ | refine x_block_ne ?_ (by decide))
          | (with_reducible refine is_k ?_; refine go_k _ (by simp only [Ax.runK, Ax.runOps, Ax.run1, Ax.wantA, Ax.step, Ax.ev, Ax.evs, Ax.evo, Ax.evp, Ax.look, Ax.putE, Ax.keepE, Ax.argsE, Ax.extr, Ax.binV, Ax.intBin, Ax.unV, Ax.addOff, Ax.sizeN, Ax.mkV, Ax.okV, reduceIte, Nat.reduceEqDiff, Nat.reduceAdd, Nat.reduceLeDiff, Nat.reduceLT, Nat.reduceSub, Nat.reduceMul, reduceCtorEq, Int.reduceEq, Int.reduceLT, Int.reduceLE, Int.reduceAdd, Int.reduceSub, Int.reduceNeg, Int.reduceToNat, undef, Value.cells, axL, get1 hb7, g1, wi]; rfl) rfl ?_)
          | (with_reducible refine cond_t ?_ ?_; · simp only [Ax.ev, Ax.look, reduceIte, Nat.reduceEqDiff])
          | (with_reducible refine cond_f ?_ ?_; · simp only [Ax.ev, Ax.look, reduceIte, Nat.reduceEqDiff])
          | (with_reducible refine is_rp ?_; first | refine r_postR rfl ?_ | refine r_postR (by simp only [Ax.result, Ax.resVs, Ax.resV, R13, Ax.look, sizeN, mkV, Nat.reduceEqDiff, reduceIte, axL, get1 hb7, g1, wi]; rfl) ?_)
          | (with_reducible refine is_np ?_; first | refine n_postR rfl ?_ | refine n_postR (by simp only [Ax.result, Ax.resVs, Ax.resV, R13, Ax.look, sizeN, mkV, Nat.reduceEqDiff, reduceIte, axL, get1 hb7, g1, wi]; rfl) ?_)
          | (first | with_reducible refine is_wd ?_ | with_reducible refine dk_wd ?_); refine go_dt _ (by simp only [Ax.runDK, Ax.runDT, Ax.runDops, Ax.run1d, Ax.recs, Ax.okPair, Ax.idsE, Ax.idsV, AOp.mems, AOp.isWrite, DRec.none, axD, Ax.runK, Ax.runOps, Ax.run1, Ax.wantA, Ax.step, Ax.ev, Ax.evs, Ax.evo, Ax.evp, Ax.look, Ax.putE, Ax.keepE, Ax.argsE, Ax.extr, Ax.binV, Ax.intBin, Ax.unV, Ax.addOff, Ax.sizeN, Ax.mkV, Ax.okV, reduceIte, Nat.reduceEqDiff, Nat.reduceAdd, Nat.reduceLeDiff, Nat.reduceLT, Nat.reduceSub, Nat.reduceMul, reduceCtorEq, Int.reduceEq, Int.reduceLT, Int.reduceLE, Int.reduceAdd, Int.reduceSub, Int.reduceNeg, Int.reduceToNat, undef, Value.cells, axL, get1 hb7, g1, wi]; rfl) rfl ?_
          | (with_reducible first | refine end_reg (Ev.mono _ _) ?_ | refine end_dreg (Ev.mono _ _) ?_ | refine end_cond (Ev.mono _ _) ?_ | refine end_block (Ev.mono _ _) ?_ | refine end_loop (Ev.mono _ _) ?_))
      exact ⟨(i + 1, v', acc ++ ps[i].tasks), by dsimp only; omega, hil, hsplit.symm, rfl, H6⟩
    · have hie : i = ps.length := by omega
      subst hie
      rw [List.take_length, ← hwe] at hacc
      subst hacc
      repeat' (first
          | (with_reducible first | refine go_assoc ?_ (Ev.mono _ _) | refine go_skip ?_ | refine go_fin ?_ | refine go_ret ?_ | refine go_ret0 ?_ | refine go_exit ?_ | refine go_exit0 ?_ | refine go_block ?_ | refine n_then ?_ | refine x_then ?_ | refine r_then ?_ | refine n_block ?_ | refine r_block ?_ | refine x_block ?_ | refine x_block_ne ?_ (by decide))
          | (with_reducible refine is_k ?_; refine go_k _ (by simp only [Ax.runK, Ax.runOps, Ax.run1, Ax.wantA, Ax.step, Ax.ev, Ax.evs, Ax.evo, Ax.evp, Ax.look, Ax.putE, Ax.keepE, Ax.argsE, Ax.extr, Ax.binV, Ax.intBin, Ax.unV, Ax.addOff, Ax.sizeN, Ax.mkV, Ax.okV, reduceIte, Nat.reduceEqDiff, Nat.reduceAdd, Nat.reduceLeDiff, Nat.reduceLT, Nat.reduceSub, Nat.reduceMul, reduceCtorEq, Int.reduceEq, Int.reduceLT, Int.reduceLE, Int.reduceAdd, Int.reduceSub, Int.reduceNeg, Int.reduceToNat, undef, Value.cells, axL]; rfl) rfl ?_)
          | (with_reducible refine cond_t ?_ ?_; · simp only [Ax.ev, Ax.look, reduceIte, Nat.reduceEqDiff])
          | (with_reducible refine cond_f ?_ ?_; · simp only [Ax.ev, Ax.look, reduceIte, Nat.reduceEqDiff])
          | (with_reducible refine is_rp ?_; first | refine r_postR rfl ?_ | refine r_postR (by simp only [Ax.result, Ax.resVs, Ax.resV, R13, Ax.look, sizeN, mkV, Nat.reduceEqDiff, reduceIte, axL]; rfl) ?_)
          | (with_reducible refine is_np ?_; first | refine n_postR rfl ?_ | refine n_postR (by simp only [Ax.result, Ax.resVs, Ax.resV, R13, Ax.look, sizeN, mkV, Nat.reduceEqDiff, reduceIte, axL]; rfl) ?_)
          | (first | with_reducible refine is_wd ?_ | with_reducible refine dk_wd ?_); refine go_dt _ (by simp only [Ax.runDK, Ax.runDT, Ax.runDops, Ax.run1d, Ax.recs, Ax.okPair, Ax.idsE, Ax.idsV, AOp.mems, AOp.isWrite, DRec.none, axD, Ax.runK, Ax.runOps, Ax.run1, Ax.wantA, Ax.step, Ax.ev, Ax.evs, Ax.evo, Ax.evp, Ax.look, Ax.putE, Ax.keepE, Ax.argsE, Ax.extr, Ax.binV, Ax.intBin, Ax.unV, Ax.addOff, Ax.sizeN, Ax.mkV, Ax.okV, reduceIte, Nat.reduceEqDiff, Nat.reduceAdd, Nat.reduceLeDiff, Nat.reduceLT, Nat.reduceSub, Nat.reduceMul, reduceCtorEq, Int.reduceEq, Int.reduceLT, Int.reduceLE, Int.reduceAdd, Int.reduceSub, Int.reduceNeg, Int.reduceToNat, undef, Value.cells, axL]; rfl) rfl ?_
          | (with_reducible first | refine end_reg (Ev.mono _ _) ?_ | refine end_dreg (Ev.mono _ _) ?_ | refine end_cond (Ev.mono _ _) ?_ | refine end_block (Ev.mono _ _) ?_ | refine end_loop (Ev.mono _ _) ?_))
      have h7 : St R (SlT rv ps :: (ps.map RowP.a ++ (pts b (pre ++ lockC m rv ++ post) :: (Gs ++ (SlT ov (waitL m) :: F))))) S1 := by
        have := St.past [SlT ov (waitL m)] (A := SlT rv ps :: (ps.map RowP.a ++ (pts b (pre ++ lockC m rv ++ post) :: Gs))) (F := F) (by simpa using H4)
        simpa using this
      have h8 := back m rv S1 (SlT ov (waitL m) :: F) ((by have := RoundA.close h7; rw [← hps] at this; exact this.swap))
      rw [← hm, hset, hm] at h8
      exact hqq ov S1 h8.swap
  · obtain ⟨lv, ps, rfl, H1⟩ := LocksA.open' H
    have hl := SlT.len (H1.pick 2 [1] rfl)
    refine Ev.fnR (rs := R13) (c := A13) rfl ?_; unfold A13
    repeat' (first
        | (with_reducible first | refine go_assoc ?_ (Ev.mono _ _) | refine go_skip ?_ | refine go_fin ?_ | refine go_ret ?_ | refine go_ret0 ?_ | refine go_exit ?_ | refine go_exit0 ?_ | refine go_block ?_ | refine n_then ?_ | refine x_then ?_ | refine r_then ?_ | refine n_block ?_ | refine r_block ?_ | refine x_block ?_ | refine x_block_ne ?_ (by decide))
        | (with_reducible refine is_k ?_; refine go_k _ (by simp only [Ax.runK, Ax.runOps, Ax.run1, Ax.wantA, Ax.step, Ax.ev, Ax.evs, Ax.evo, Ax.evp, Ax.look, Ax.putE, Ax.keepE, Ax.argsE, Ax.extr, Ax.binV, Ax.intBin, Ax.unV, Ax.addOff, Ax.sizeN, Ax.mkV, Ax.okV, reduceIte, Nat.reduceEqDiff, Nat.reduceAdd, Nat.reduceLeDiff, Nat.reduceLT, Nat.reduceSub, Nat.reduceMul, reduceCtorEq, Int.reduceEq, Int.reduceLT, Int.reduceLE, Int.reduceAdd, Int.reduceSub, Int.reduceNeg, Int.reduceToNat, undef, Value.cells, axL]; rfl) rfl ?_)
        | (with_reducible refine cond_t ?_ ?_; · simp only [Ax.ev, Ax.look, reduceIte, Nat.reduceEqDiff])
        | (with_reducible refine cond_f ?_ ?_; · simp only [Ax.ev, Ax.look, reduceIte, Nat.reduceEqDiff])
        | (with_reducible refine is_rp ?_; first | refine r_postR rfl ?_ | refine r_postR (by simp only [Ax.result, Ax.resVs, Ax.resV, R13, Ax.look, sizeN, mkV, Nat.reduceEqDiff, reduceIte, axL]; rfl) ?_)
        | (with_reducible refine is_np ?_; first | refine n_postR rfl ?_ | refine n_postR (by simp only [Ax.result, Ax.resVs, Ax.resV, R13, Ax.look, sizeN, mkV, Nat.reduceEqDiff, reduceIte, axL]; rfl) ?_)
        | (first | with_reducible refine is_wd ?_ | with_reducible refine dk_wd ?_); refine go_dt _ (by simp only [Ax.runDK, Ax.runDT, Ax.runDops, Ax.run1d, Ax.recs, Ax.okPair, Ax.idsE, Ax.idsV, AOp.mems, AOp.isWrite, DRec.none, axD, Ax.runK, Ax.runOps, Ax.run1, Ax.wantA, Ax.step, Ax.ev, Ax.evs, Ax.evo, Ax.evp, Ax.look, Ax.putE, Ax.keepE, Ax.argsE, Ax.extr, Ax.binV, Ax.intBin, Ax.unV, Ax.addOff, Ax.sizeN, Ax.mkV, Ax.okV, reduceIte, Nat.reduceEqDiff, Nat.reduceAdd, Nat.reduceLeDiff, Nat.reduceLT, Nat.reduceSub, Nat.reduceMul, reduceCtorEq, Int.reduceEq, Int.reduceLT, Int.reduceLE, Int.reduceAdd, Int.reduceSub, Int.reduceNeg, Int.reduceToNat, undef, Value.cells, axL]; rfl) rfl ?_
        | (with_reducible first | refine end_reg (Ev.mono _ _) ?_ | refine end_dreg (Ev.mono _ _) ?_ | refine end_cond (Ev.mono _ _) ?_ | refine end_block (Ev.mono _ _) ?_ | refine end_loop (Ev.mono _ _) ?_))
    repeat' (with_reducible first | refine go_assoc ?_ (Ev.mono _ _) | refine go_skip ?_ | refine go_block ?_ | refine end_reg (Ev.mono _ _) ?_)
    refine go_callC _ (by simp only [Ax.runC, AOp.isCall, Ax.runK, Ax.runOps, Ax.run1, Ax.wantA, Ax.step, Ax.ev, Ax.evs, Ax.evo, Ax.evp, Ax.look, Ax.putE, Ax.keepE, Ax.argsE, Ax.extr, Ax.binV, Ax.intBin, Ax.unV, Ax.addOff, Ax.sizeN, Ax.mkV, Ax.okV, reduceIte, Nat.reduceEqDiff, Nat.reduceAdd, Nat.reduceLeDiff, Nat.reduceLT, Nat.reduceSub, Nat.reduceMul, reduceCtorEq, Int.reduceEq, Int.reduceLT, Int.reduceLE, Int.reduceAdd, Int.reduceSub, Int.reduceNeg, Int.reduceToNat, undef, Value.cells, axL]; rfl) rfl rfl (by simp only [Ax.wantA, Ax.look, reduceIte, Nat.reduceEqDiff, bq_t, bq_f, Bool.not_true, Bool.not_false]; try rfl) rfl (by simp only [Ax.runK, Ax.runOps, Ax.run1, Ax.wantA, Ax.step, Ax.ev, Ax.evs, Ax.evo, Ax.evp, Ax.look, Ax.putE, Ax.keepE, Ax.argsE, Ax.extr, Ax.binV, Ax.intBin, Ax.unV, Ax.addOff, Ax.sizeN, Ax.mkV, Ax.okV, reduceIte, Nat.reduceEqDiff, Nat.reduceAdd, Nat.reduceLeDiff, Nat.reduceLT, Nat.reduceSub, Nat.reduceMul, reduceCtorEq, Int.reduceEq, Int.reduceLT, Int.reduceLE, Int.reduceAdd, Int.reduceSub, Int.reduceNeg, Int.reduceToNat, undef, Value.cells, axL]; try rfl) ?_
    refine at_spec X (p := .pointer none) H1.pget hl n (fun h1 h2 => absurd ⟨h1, by simpa using h2⟩ hn) (fun _ => ?_) (fun h1 h2 => absurd ⟨h1, by simpa using h2⟩ hn)
    repeat' (first
        | (with_reducible first | refine go_assoc ?_ (Ev.mono _ _) | refine go_skip ?_ | refine go_fin ?_ | refine go_ret ?_ | refine go_ret0 ?_ | refine go_exit ?_ | refine go_exit0 ?_ | refine go_block ?_ | refine n_then ?_ | refine x_then ?_ | refine r_then ?_ | refine n_block ?_ | refine r_block ?_ | refine x_block ?_ | refine x_block_ne ?_ (by decide))
        | (with_reducible refine is_k ?_; refine go_k _ (by simp only [Ax.runK, Ax.runOps, Ax.run1, Ax.wantA, Ax.step, Ax.ev, Ax.evs, Ax.evo, Ax.evp, Ax.look, Ax.putE, Ax.keepE, Ax.argsE, Ax.extr, Ax.binV, Ax.intBin, Ax.unV, Ax.addOff, Ax.sizeN, Ax.mkV, Ax.okV, reduceIte, Nat.reduceEqDiff, Nat.reduceAdd, Nat.reduceLeDiff, Nat.reduceLT, Nat.reduceSub, Nat.reduceMul, reduceCtorEq, Int.reduceEq, Int.reduceLT, Int.reduceLE, Int.reduceAdd, Int.reduceSub, Int.reduceNeg, Int.reduceToNat, undef, Value.cells, axL]; rfl) rfl ?_)
        | (with_reducible refine cond_t ?_ ?_; · simp only [Ax.ev, Ax.look, reduceIte, Nat.reduceEqDiff])
        | (with_reducible refine cond_f ?_ ?_; · simp only [Ax.ev, Ax.look, reduceIte, Nat.reduceEqDiff])
        | (with_reducible refine is_rp ?_; first | refine r_postR rfl ?_ | refine r_postR (by simp only [Ax.result, Ax.resVs, Ax.resV, R13, Ax.look, sizeN, mkV, Nat.reduceEqDiff, reduceIte, axL]; rfl) ?_)
        | (with_reducible refine is_np ?_; first | refine n_postR rfl ?_ | refine n_postR (by simp only [Ax.result, Ax.resVs, Ax.resV, R13, Ax.look, sizeN, mkV, Nat.reduceEqDiff, reduceIte, axL]; rfl) ?_)
        | (first | with_reducible refine is_wd ?_ | with_reducible refine dk_wd ?_); refine go_dt _ (by simp only [Ax.runDK, Ax.runDT, Ax.runDops, Ax.run1d, Ax.recs, Ax.okPair, Ax.idsE, Ax.idsV, AOp.mems, AOp.isWrite, DRec.none, axD, Ax.runK, Ax.runOps, Ax.run1, Ax.wantA, Ax.step, Ax.ev, Ax.evs, Ax.evo, Ax.evp, Ax.look, Ax.putE, Ax.keepE, Ax.argsE, Ax.extr, Ax.binV, Ax.intBin, Ax.unV, Ax.addOff, Ax.sizeN, Ax.mkV, Ax.okV, reduceIte, Nat.reduceEqDiff, Nat.reduceAdd, Nat.reduceLeDiff, Nat.reduceLT, Nat.reduceSub, Nat.reduceMul, reduceCtorEq, Int.reduceEq, Int.reduceLT, Int.reduceLE, Int.reduceAdd, Int.reduceSub, Int.reduceNeg, Int.reduceToNat, undef, Value.cells, axL]; rfl) rfl ?_
        | (with_reducible first | refine end_reg (Ev.mono _ _) ?_ | refine end_dreg (Ev.mono _ _) ?_ | refine end_cond (Ev.mono _ _) ?_ | refine end_block (Ev.mono _ _) ?_ | refine end_loop (Ev.mono _ _) ?_))
    exact hq0 hn
end
end Go.Proofs.Ytgnjkkppahhhfaa

/- Law 14: Owned, New, and locks that there are not. -/
namespace Go.Proofs.Ytgnjkkppahhhfaa
open Go.Ax
open Go.Ax.Enc (enc)

/-- Which locks a task has, of those from k on. -/
def ownedL (t : Int) : List LockM → Nat → List Int
  | [], _ => []
  | m :: ms, k => if m.held = true ∧ m.owner = t then (k : Int) :: ownedL t ms (k + 1) else ownedL t ms (k + 1)

theorem ownedL_snoc (t : Int) (m : LockM) : ∀ (ms : List LockM) (k : Nat), ownedL t (ms ++ [m]) k = ownedL t ms k ++ (if m.held = true ∧ m.owner = t then [((k + ms.length : Nat) : Int)] else [])
  | [], k => by simp only [List.nil_append, ownedL, List.length_nil, Nat.add_zero]
  | a :: ms, k => by
    have ih := ownedL_snoc t m ms (k + 1)
    simp only [List.cons_append, ownedL, List.length_cons, ih]
    rw [show k + 1 + ms.length = k + (ms.length + 1) from by omega]
    split <;> simp

theorem ownedL_len (t : Int) : ∀ (ms : List LockM) (k : Nat), (ownedL t ms k).length ≤ ms.length
  | [], _ => Nat.le_refl _
  | m :: ms, k => by
    have := ownedL_len t ms (k + 1)
    simp only [ownedL]
    split <;> simp <;> omega

section
variable (X : Nat → List Value → Option Value) {R : Nat → Option (List Value)} {F : List Asn} {S : AS} {L : Nat} {ms : List LockM}

theorem owned_spec (H : St R (LocksA L ms :: F) S) (hn : ms.length < 1000000) (t : Int) {Q : Value → AS → Prop}
    (hq : ∀ v S', St R (SlT v (ownedL t ms 0) :: LocksA L ms :: F) S' → Q v S') : Ev G X 17 [.pointer (some ⟨L, 0, none⟩), .int .i64 t] S Q := by
  refine Ev.fnR (rs := R17) (c := A17) rfl ?_; unfold A17
  repeat' (first
      | (with_reducible first | refine go_assoc ?_ (Ev.mono _ _) | refine go_skip ?_ | refine go_fin ?_ | refine go_ret ?_ | refine go_ret0 ?_ | refine go_exit ?_ | refine go_exit0 ?_ | refine go_block ?_ | refine n_then ?_ | refine x_then ?_ | refine r_then ?_ | refine n_block ?_ | refine r_block ?_ | refine x_block ?_ | refine x_block_ne ?_ (by decide))
      | (with_reducible refine is_k ?_; refine go_k _ (by simp only [Ax.runK, Ax.runOps, Ax.run1, Ax.wantA, Ax.step, Ax.ev, Ax.evs, Ax.evo, Ax.evp, Ax.look, Ax.putE, Ax.keepE, Ax.argsE, Ax.extr, Ax.binV, Ax.intBin, Ax.unV, Ax.addOff, Ax.sizeN, Ax.mkV, Ax.okV, reduceIte, Nat.reduceEqDiff, Nat.reduceAdd, Nat.reduceLeDiff, Nat.reduceLT, Nat.reduceSub, Nat.reduceMul, reduceCtorEq, Int.reduceEq, Int.reduceLT, Int.reduceLE, Int.reduceAdd, Int.reduceSub, Int.reduceNeg, Int.reduceToNat, undef, Value.cells, axL]; rfl) rfl ?_)
      | (with_reducible refine cond_t ?_ ?_; · simp only [Ax.ev, Ax.look, reduceIte, Nat.reduceEqDiff])
      | (with_reducible refine cond_f ?_ ?_; · simp only [Ax.ev, Ax.look, reduceIte, Nat.reduceEqDiff])
      | (with_reducible refine is_rp ?_; first | refine r_postR rfl ?_ | refine r_postR (by simp only [Ax.result, Ax.resVs, Ax.resV, R17, Ax.look, sizeN, mkV, Nat.reduceEqDiff, reduceIte, axL]; rfl) ?_)
      | (with_reducible refine is_np ?_; first | refine n_postR rfl ?_ | refine n_postR (by simp only [Ax.result, Ax.resVs, Ax.resV, R17, Ax.look, sizeN, mkV, Nat.reduceEqDiff, reduceIte, axL]; rfl) ?_)
      | (first | with_reducible refine is_wd ?_ | with_reducible refine dk_wd ?_); refine go_dt _ (by simp only [Ax.runDK, Ax.runDT, Ax.runDops, Ax.run1d, Ax.recs, Ax.okPair, Ax.idsE, Ax.idsV, AOp.mems, AOp.isWrite, DRec.none, axD, Ax.runK, Ax.runOps, Ax.run1, Ax.wantA, Ax.step, Ax.ev, Ax.evs, Ax.evo, Ax.evp, Ax.look, Ax.putE, Ax.keepE, Ax.argsE, Ax.extr, Ax.binV, Ax.intBin, Ax.unV, Ax.addOff, Ax.sizeN, Ax.mkV, Ax.okV, reduceIte, Nat.reduceEqDiff, Nat.reduceAdd, Nat.reduceLeDiff, Nat.reduceLT, Nat.reduceSub, Nat.reduceMul, reduceCtorEq, Int.reduceEq, Int.reduceLT, Int.reduceLE, Int.reduceAdd, Int.reduceSub, Int.reduceNeg, Int.reduceToNat, undef, Value.cells, axL]; rfl) rfl ?_
      | (with_reducible first | refine end_reg (Ev.mono _ _) ?_ | refine end_dreg (Ev.mono _ _) ?_ | refine end_cond (Ev.mono _ _) ?_ | refine end_block (Ev.mono _ _) ?_ | refine end_loop (Ev.mono _ _) ?_))
  repeat' (with_reducible first | refine go_assoc ?_ (Ev.mono _ _) | refine go_skip ?_ | refine go_block ?_ | refine end_reg (Ev.mono _ _) ?_)
  refine go_callC _ (by simp only [Ax.runC, AOp.isCall, Ax.runK, Ax.runOps, Ax.run1, Ax.wantA, Ax.step, Ax.ev, Ax.evs, Ax.evo, Ax.evp, Ax.look, Ax.putE, Ax.keepE, Ax.argsE, Ax.extr, Ax.binV, Ax.intBin, Ax.unV, Ax.addOff, Ax.sizeN, Ax.mkV, Ax.okV, reduceIte, Nat.reduceEqDiff, Nat.reduceAdd, Nat.reduceLeDiff, Nat.reduceLT, Nat.reduceSub, Nat.reduceMul, reduceCtorEq, Int.reduceEq, Int.reduceLT, Int.reduceLE, Int.reduceAdd, Int.reduceSub, Int.reduceNeg, Int.reduceToNat, undef, Value.cells, axL]; rfl) rfl rfl (by simp only [Ax.wantA, Ax.look, reduceIte, Nat.reduceEqDiff, bq_t, bq_f, Bool.not_true, Bool.not_false]; try rfl) rfl (by simp only [Ax.runK, Ax.runOps, Ax.run1, Ax.wantA, Ax.step, Ax.ev, Ax.evs, Ax.evo, Ax.evp, Ax.look, Ax.putE, Ax.keepE, Ax.argsE, Ax.extr, Ax.binV, Ax.intBin, Ax.unV, Ax.addOff, Ax.sizeN, Ax.mkV, Ax.okV, reduceIte, Nat.reduceEqDiff, Nat.reduceAdd, Nat.reduceLeDiff, Nat.reduceLT, Nat.reduceSub, Nat.reduceMul, reduceCtorEq, Int.reduceEq, Int.reduceLT, Int.reduceLE, Int.reduceAdd, Int.reduceSub, Int.reduceNeg, Int.reduceToNat, undef, Value.cells, axL]; try rfl) ?_
  refine lenL_spec X H ?_
  repeat' (first
      | (with_reducible first | refine go_assoc ?_ (Ev.mono _ _) | refine go_skip ?_ | refine go_fin ?_ | refine go_ret ?_ | refine go_ret0 ?_ | refine go_exit ?_ | refine go_exit0 ?_ | refine go_block ?_ | refine n_then ?_ | refine x_then ?_ | refine r_then ?_ | refine n_block ?_ | refine r_block ?_ | refine x_block ?_ | refine x_block_ne ?_ (by decide))
      | (with_reducible refine is_k ?_; refine go_k _ (by simp only [Ax.runK, Ax.runOps, Ax.run1, Ax.wantA, Ax.step, Ax.ev, Ax.evs, Ax.evo, Ax.evp, Ax.look, Ax.putE, Ax.keepE, Ax.argsE, Ax.extr, Ax.binV, Ax.intBin, Ax.unV, Ax.addOff, Ax.sizeN, Ax.mkV, Ax.okV, reduceIte, Nat.reduceEqDiff, Nat.reduceAdd, Nat.reduceLeDiff, Nat.reduceLT, Nat.reduceSub, Nat.reduceMul, reduceCtorEq, Int.reduceEq, Int.reduceLT, Int.reduceLE, Int.reduceAdd, Int.reduceSub, Int.reduceNeg, Int.reduceToNat, undef, Value.cells, axL]; rfl) rfl ?_)
      | (with_reducible refine cond_t ?_ ?_; · simp only [Ax.ev, Ax.look, reduceIte, Nat.reduceEqDiff])
      | (with_reducible refine cond_f ?_ ?_; · simp only [Ax.ev, Ax.look, reduceIte, Nat.reduceEqDiff])
      | (with_reducible refine is_rp ?_; first | refine r_postR rfl ?_ | refine r_postR (by simp only [Ax.result, Ax.resVs, Ax.resV, R17, Ax.look, sizeN, mkV, Nat.reduceEqDiff, reduceIte, axL]; rfl) ?_)
      | (with_reducible refine is_np ?_; first | refine n_postR rfl ?_ | refine n_postR (by simp only [Ax.result, Ax.resVs, Ax.resV, R17, Ax.look, sizeN, mkV, Nat.reduceEqDiff, reduceIte, axL]; rfl) ?_)
      | (first | with_reducible refine is_wd ?_ | with_reducible refine dk_wd ?_); refine go_dt _ (by simp only [Ax.runDK, Ax.runDT, Ax.runDops, Ax.run1d, Ax.recs, Ax.okPair, Ax.idsE, Ax.idsV, AOp.mems, AOp.isWrite, DRec.none, axD, Ax.runK, Ax.runOps, Ax.run1, Ax.wantA, Ax.step, Ax.ev, Ax.evs, Ax.evo, Ax.evp, Ax.look, Ax.putE, Ax.keepE, Ax.argsE, Ax.extr, Ax.binV, Ax.intBin, Ax.unV, Ax.addOff, Ax.sizeN, Ax.mkV, Ax.okV, reduceIte, Nat.reduceEqDiff, Nat.reduceAdd, Nat.reduceLeDiff, Nat.reduceLT, Nat.reduceSub, Nat.reduceMul, reduceCtorEq, Int.reduceEq, Int.reduceLT, Int.reduceLE, Int.reduceAdd, Int.reduceSub, Int.reduceNeg, Int.reduceToNat, undef, Value.cells, axL]; rfl) rfl ?_
      | (with_reducible first | refine end_reg (Ev.mono _ _) ?_ | refine end_dreg (Ev.mono _ _) ?_ | refine end_cond (Ev.mono _ _) ?_ | refine end_block (Ev.mono _ _) ?_ | refine end_loop (Ev.mono _ _) ?_))
  have H0 := SlT.nil (α := Int) H
  refine go_loop (Ev.mono _ _) (fun (g : Nat × Value) ρ S' => g.1 ≤ ms.length ∧ ρ = [(10, .int .i64 g.1), (4, g.2), (1, .int .i64 t), (0, .pointer (some ⟨L, 0, none⟩)), (9, .int .i64 ms.length)] ∧ St R (SlT g.2 (ownedL t (ms.take g.1) 0) :: LocksA L ms :: F) S') (fun g => ms.length - g.1) (0, .slice none 0 0) ⟨Nat.zero_le _, rfl, H0⟩ ?_
  rintro ⟨i, ov⟩ ρ S1 ⟨hi, rfl, H1⟩
  dsimp only at hi H1
  repeat' (first
      | (with_reducible first | refine go_assoc ?_ (Ev.mono _ _) | refine go_skip ?_ | refine go_fin ?_ | refine go_ret ?_ | refine go_ret0 ?_ | refine go_exit ?_ | refine go_exit0 ?_ | refine go_block ?_ | refine n_then ?_ | refine x_then ?_ | refine r_then ?_ | refine n_block ?_ | refine r_block ?_ | refine x_block ?_ | refine x_block_ne ?_ (by decide))
      | (with_reducible refine is_k ?_; refine go_k _ (by simp only [Ax.runK, Ax.runOps, Ax.run1, Ax.wantA, Ax.step, Ax.ev, Ax.evs, Ax.evo, Ax.evp, Ax.look, Ax.putE, Ax.keepE, Ax.argsE, Ax.extr, Ax.binV, Ax.intBin, Ax.unV, Ax.addOff, Ax.sizeN, Ax.mkV, Ax.okV, reduceIte, Nat.reduceEqDiff, Nat.reduceAdd, Nat.reduceLeDiff, Nat.reduceLT, Nat.reduceSub, Nat.reduceMul, reduceCtorEq, Int.reduceEq, Int.reduceLT, Int.reduceLE, Int.reduceAdd, Int.reduceSub, Int.reduceNeg, Int.reduceToNat, undef, Value.cells, axL]; rfl) rfl ?_)
      | (with_reducible refine cond_t ?_ ?_; · simp only [Ax.ev, Ax.look, reduceIte, Nat.reduceEqDiff])
      | (with_reducible refine cond_f ?_ ?_; · simp only [Ax.ev, Ax.look, reduceIte, Nat.reduceEqDiff])
      | (with_reducible refine is_rp ?_; first | refine r_postR rfl ?_ | refine r_postR (by simp only [Ax.result, Ax.resVs, Ax.resV, R17, Ax.look, sizeN, mkV, Nat.reduceEqDiff, reduceIte, axL]; rfl) ?_)
      | (with_reducible refine is_np ?_; first | refine n_postR rfl ?_ | refine n_postR (by simp only [Ax.result, Ax.resVs, Ax.resV, R17, Ax.look, sizeN, mkV, Nat.reduceEqDiff, reduceIte, axL]; rfl) ?_)
      | (first | with_reducible refine is_wd ?_ | with_reducible refine dk_wd ?_); refine go_dt _ (by simp only [Ax.runDK, Ax.runDT, Ax.runDops, Ax.run1d, Ax.recs, Ax.okPair, Ax.idsE, Ax.idsV, AOp.mems, AOp.isWrite, DRec.none, axD, Ax.runK, Ax.runOps, Ax.run1, Ax.wantA, Ax.step, Ax.ev, Ax.evs, Ax.evo, Ax.evp, Ax.look, Ax.putE, Ax.keepE, Ax.argsE, Ax.extr, Ax.binV, Ax.intBin, Ax.unV, Ax.addOff, Ax.sizeN, Ax.mkV, Ax.okV, reduceIte, Nat.reduceEqDiff, Nat.reduceAdd, Nat.reduceLeDiff, Nat.reduceLT, Nat.reduceSub, Nat.reduceMul, reduceCtorEq, Int.reduceEq, Int.reduceLT, Int.reduceLE, Int.reduceAdd, Int.reduceSub, Int.reduceNeg, Int.reduceToNat, undef, Value.cells, axL]; rfl) rfl ?_
      | (with_reducible first | refine end_reg (Ev.mono _ _) ?_ | refine end_dreg (Ev.mono _ _) ?_ | refine end_cond (Ev.mono _ _) ?_ | refine end_block (Ev.mono _ _) ?_ | refine end_loop (Ev.mono _ _) ?_))
  refine cond_d rfl (fun hlt => ?_) (fun hlt => ?_)
  · have hil : i < ms.length := by omega
    have wi : IntKind.wrap .i64 ((i : Int) + 1) = ((i + 1 : Nat) : Int) := wrapI (n := (i : Int) + 1) (by unfold I64; omega)
    have hs := ownedL_snoc t ms[i] (ms.take i) 0
    rw [← List.take_succ_eq_append_getElem hil, List.length_take, Nat.zero_add, Nat.min_eq_left (by omega)] at hs
    repeat' (first
        | (with_reducible first | refine go_assoc ?_ (Ev.mono _ _) | refine go_skip ?_ | refine go_fin ?_ | refine go_ret ?_ | refine go_ret0 ?_ | refine go_exit ?_ | refine go_exit0 ?_ | refine go_block ?_ | refine n_then ?_ | refine x_then ?_ | refine r_then ?_ | refine n_block ?_ | refine r_block ?_ | refine x_block ?_ | refine x_block_ne ?_ (by decide))
        | (with_reducible refine is_k ?_; refine go_k _ (by simp only [Ax.runK, Ax.runOps, Ax.run1, Ax.wantA, Ax.step, Ax.ev, Ax.evs, Ax.evo, Ax.evp, Ax.look, Ax.putE, Ax.keepE, Ax.argsE, Ax.extr, Ax.binV, Ax.intBin, Ax.unV, Ax.addOff, Ax.sizeN, Ax.mkV, Ax.okV, reduceIte, Nat.reduceEqDiff, Nat.reduceAdd, Nat.reduceLeDiff, Nat.reduceLT, Nat.reduceSub, Nat.reduceMul, reduceCtorEq, Int.reduceEq, Int.reduceLT, Int.reduceLE, Int.reduceAdd, Int.reduceSub, Int.reduceNeg, Int.reduceToNat, undef, Value.cells, axL]; rfl) rfl ?_)
        | (with_reducible refine cond_t ?_ ?_; · simp only [Ax.ev, Ax.look, reduceIte, Nat.reduceEqDiff])
        | (with_reducible refine cond_f ?_ ?_; · simp only [Ax.ev, Ax.look, reduceIte, Nat.reduceEqDiff])
        | (with_reducible refine is_rp ?_; first | refine r_postR rfl ?_ | refine r_postR (by simp only [Ax.result, Ax.resVs, Ax.resV, R17, Ax.look, sizeN, mkV, Nat.reduceEqDiff, reduceIte, axL]; rfl) ?_)
        | (with_reducible refine is_np ?_; first | refine n_postR rfl ?_ | refine n_postR (by simp only [Ax.result, Ax.resVs, Ax.resV, R17, Ax.look, sizeN, mkV, Nat.reduceEqDiff, reduceIte, axL]; rfl) ?_)
        | (first | with_reducible refine is_wd ?_ | with_reducible refine dk_wd ?_); refine go_dt _ (by simp only [Ax.runDK, Ax.runDT, Ax.runDops, Ax.run1d, Ax.recs, Ax.okPair, Ax.idsE, Ax.idsV, AOp.mems, AOp.isWrite, DRec.none, axD, Ax.runK, Ax.runOps, Ax.run1, Ax.wantA, Ax.step, Ax.ev, Ax.evs, Ax.evo, Ax.evp, Ax.look, Ax.putE, Ax.keepE, Ax.argsE, Ax.extr, Ax.binV, Ax.intBin, Ax.unV, Ax.addOff, Ax.sizeN, Ax.mkV, Ax.okV, reduceIte, Nat.reduceEqDiff, Nat.reduceAdd, Nat.reduceLeDiff, Nat.reduceLT, Nat.reduceSub, Nat.reduceMul, reduceCtorEq, Int.reduceEq, Int.reduceLT, Int.reduceLE, Int.reduceAdd, Int.reduceSub, Int.reduceNeg, Int.reduceToNat, undef, Value.cells, axL]; rfl) rfl ?_
        | (with_reducible first | refine end_reg (Ev.mono _ _) ?_ | refine end_dreg (Ev.mono _ _) ?_ | refine end_cond (Ev.mono _ _) ?_ | refine end_block (Ev.mono _ _) ?_ | refine end_loop (Ev.mono _ _) ?_))
    repeat' (with_reducible first | refine go_assoc ?_ (Ev.mono _ _) | refine go_skip ?_ | refine go_block ?_ | refine end_reg (Ev.mono _ _) ?_)
    refine go_callC _ (by simp only [Ax.runC, AOp.isCall, Ax.runK, Ax.runOps, Ax.run1, Ax.wantA, Ax.step, Ax.ev, Ax.evs, Ax.evo, Ax.evp, Ax.look, Ax.putE, Ax.keepE, Ax.argsE, Ax.extr, Ax.binV, Ax.intBin, Ax.unV, Ax.addOff, Ax.sizeN, Ax.mkV, Ax.okV, reduceIte, Nat.reduceEqDiff, Nat.reduceAdd, Nat.reduceLeDiff, Nat.reduceLT, Nat.reduceSub, Nat.reduceMul, reduceCtorEq, Int.reduceEq, Int.reduceLT, Int.reduceLE, Int.reduceAdd, Int.reduceSub, Int.reduceNeg, Int.reduceToNat, undef, Value.cells, axL]; rfl) rfl rfl (by simp only [Ax.wantA, Ax.look, reduceIte, Nat.reduceEqDiff, bq_t, bq_f, Bool.not_true, Bool.not_false]; try rfl) rfl (by simp only [Ax.runK, Ax.runOps, Ax.run1, Ax.wantA, Ax.step, Ax.ev, Ax.evs, Ax.evo, Ax.evp, Ax.look, Ax.putE, Ax.keepE, Ax.argsE, Ax.extr, Ax.binV, Ax.intBin, Ax.unV, Ax.addOff, Ax.sizeN, Ax.mkV, Ax.okV, reduceIte, Nat.reduceEqDiff, Nat.reduceAdd, Nat.reduceLeDiff, Nat.reduceLT, Nat.reduceSub, Nat.reduceMul, reduceCtorEq, Int.reduceEq, Int.reduceLT, Int.reduceLE, Int.reduceAdd, Int.reduceSub, Int.reduceNeg, Int.reduceToNat, undef, Value.cells, axL]; try rfl) ?_
    refine owner_spec X (H1.pick 2 [1, 0] rfl) i (fun h => absurd ⟨by omega, by omega⟩ h) (fun k hk hkl => ?_)
    have : k = i := by omega
    subst this
    have go : St R (SlT ov (ownedL t (ms.take k) 0) :: LocksA L ms :: F) S1 := H1
    cases hh : ms[k].held with
    | false =>
      rw [hh] at hs
      simp only [Bool.false_eq_true, false_and, if_false, List.append_nil] at hs
      repeat' (first
          | (with_reducible first | refine go_assoc ?_ (Ev.mono _ _) | refine go_skip ?_ | refine go_fin ?_ | refine go_ret ?_ | refine go_ret0 ?_ | refine go_exit ?_ | refine go_exit0 ?_ | refine go_block ?_ | refine n_then ?_ | refine x_then ?_ | refine r_then ?_ | refine n_block ?_ | refine r_block ?_ | refine x_block ?_ | refine x_block_ne ?_ (by decide))
          | (with_reducible refine is_k ?_; refine go_k _ (by simp only [Ax.runK, Ax.runOps, Ax.run1, Ax.wantA, Ax.step, Ax.ev, Ax.evs, Ax.evo, Ax.evp, Ax.look, Ax.putE, Ax.keepE, Ax.argsE, Ax.extr, Ax.binV, Ax.intBin, Ax.unV, Ax.addOff, Ax.sizeN, Ax.mkV, Ax.okV, reduceIte, Nat.reduceEqDiff, Nat.reduceAdd, Nat.reduceLeDiff, Nat.reduceLT, Nat.reduceSub, Nat.reduceMul, reduceCtorEq, Int.reduceEq, Int.reduceLT, Int.reduceLE, Int.reduceAdd, Int.reduceSub, Int.reduceNeg, Int.reduceToNat, undef, Value.cells, axL, hh, wi]; rfl) rfl ?_)
          | (with_reducible refine cond_t ?_ ?_; · simp only [Ax.ev, Ax.look, reduceIte, Nat.reduceEqDiff])
          | (with_reducible refine cond_f ?_ ?_; · simp only [Ax.ev, Ax.look, reduceIte, Nat.reduceEqDiff])
          | (with_reducible refine is_rp ?_; first | refine r_postR rfl ?_ | refine r_postR (by simp only [Ax.result, Ax.resVs, Ax.resV, R17, Ax.look, sizeN, mkV, Nat.reduceEqDiff, reduceIte, axL, hh, wi]; rfl) ?_)
          | (with_reducible refine is_np ?_; first | refine n_postR rfl ?_ | refine n_postR (by simp only [Ax.result, Ax.resVs, Ax.resV, R17, Ax.look, sizeN, mkV, Nat.reduceEqDiff, reduceIte, axL, hh, wi]; rfl) ?_)
          | (first | with_reducible refine is_wd ?_ | with_reducible refine dk_wd ?_); refine go_dt _ (by simp only [Ax.runDK, Ax.runDT, Ax.runDops, Ax.run1d, Ax.recs, Ax.okPair, Ax.idsE, Ax.idsV, AOp.mems, AOp.isWrite, DRec.none, axD, Ax.runK, Ax.runOps, Ax.run1, Ax.wantA, Ax.step, Ax.ev, Ax.evs, Ax.evo, Ax.evp, Ax.look, Ax.putE, Ax.keepE, Ax.argsE, Ax.extr, Ax.binV, Ax.intBin, Ax.unV, Ax.addOff, Ax.sizeN, Ax.mkV, Ax.okV, reduceIte, Nat.reduceEqDiff, Nat.reduceAdd, Nat.reduceLeDiff, Nat.reduceLT, Nat.reduceSub, Nat.reduceMul, reduceCtorEq, Int.reduceEq, Int.reduceLT, Int.reduceLE, Int.reduceAdd, Int.reduceSub, Int.reduceNeg, Int.reduceToNat, undef, Value.cells, axL, hh, wi]; rfl) rfl ?_
          | (with_reducible first | refine end_reg (Ev.mono _ _) ?_ | refine end_dreg (Ev.mono _ _) ?_ | refine end_cond (Ev.mono _ _) ?_ | refine end_block (Ev.mono _ _) ?_ | refine end_loop (Ev.mono _ _) ?_))
      refine ⟨(k + 1, ov), by dsimp only; omega, hil, rfl, ?_⟩
      dsimp only
      rw [hs]; exact H1
    | true =>
      rw [hh] at hs
      by_cases ho : ms[k].owner = t
      · simp only [ho, and_self, if_true] at hs
        have hb := ownedL_len t (ms.take k) 0
        rw [List.length_take] at hb
        obtain ⟨al, ac, rfl⟩ := SlT.shape H1
        have H2 := H1.newc [.int .i64 k]
        obtain ⟨v', S3, g1, H3⟩ := SlT.append (H2.pick 2 [1] rfl) (bytes := 8) (m := [(k : Int)]) (x := .slice (some ⟨S1.nx, 0, none⟩) 1 1) (src_new rfl) rfl (by simp; omega)
        repeat' (first
            | (with_reducible first | refine go_assoc ?_ (Ev.mono _ _) | refine go_skip ?_ | refine go_fin ?_ | refine go_ret ?_ | refine go_ret0 ?_ | refine go_exit ?_ | refine go_exit0 ?_ | refine go_block ?_ | refine n_then ?_ | refine x_then ?_ | refine r_then ?_ | refine n_block ?_ | refine r_block ?_ | refine x_block ?_ | refine x_block_ne ?_ (by decide))
            | (with_reducible refine is_k ?_; refine go_k _ (by simp only [Ax.runK, Ax.runOps, Ax.run1, Ax.wantA, Ax.step, Ax.ev, Ax.evs, Ax.evo, Ax.evp, Ax.look, Ax.putE, Ax.keepE, Ax.argsE, Ax.extr, Ax.binV, Ax.intBin, Ax.unV, Ax.addOff, Ax.sizeN, Ax.mkV, Ax.okV, reduceIte, Nat.reduceEqDiff, Nat.reduceAdd, Nat.reduceLeDiff, Nat.reduceLT, Nat.reduceSub, Nat.reduceMul, reduceCtorEq, Int.reduceEq, Int.reduceLT, Int.reduceLE, Int.reduceAdd, Int.reduceSub, Int.reduceNeg, Int.reduceToNat, undef, Value.cells, axL, hh, ho, wi, g1]; rfl) rfl ?_)
            | (with_reducible refine cond_t ?_ ?_; · simp only [Ax.ev, Ax.look, reduceIte, Nat.reduceEqDiff])
            | (with_reducible refine cond_f ?_ ?_; · simp only [Ax.ev, Ax.look, reduceIte, Nat.reduceEqDiff])
            | (with_reducible refine is_rp ?_; first | refine r_postR rfl ?_ | refine r_postR (by simp only [Ax.result, Ax.resVs, Ax.resV, R17, Ax.look, sizeN, mkV, Nat.reduceEqDiff, reduceIte, axL, hh, ho, wi, g1]; rfl) ?_)
            | (with_reducible refine is_np ?_; first | refine n_postR rfl ?_ | refine n_postR (by simp only [Ax.result, Ax.resVs, Ax.resV, R17, Ax.look, sizeN, mkV, Nat.reduceEqDiff, reduceIte, axL, hh, ho, wi, g1]; rfl) ?_)
            | (first | with_reducible refine is_wd ?_ | with_reducible refine dk_wd ?_); refine go_dt _ (by simp only [Ax.runDK, Ax.runDT, Ax.runDops, Ax.run1d, Ax.recs, Ax.okPair, Ax.idsE, Ax.idsV, AOp.mems, AOp.isWrite, DRec.none, axD, Ax.runK, Ax.runOps, Ax.run1, Ax.wantA, Ax.step, Ax.ev, Ax.evs, Ax.evo, Ax.evp, Ax.look, Ax.putE, Ax.keepE, Ax.argsE, Ax.extr, Ax.binV, Ax.intBin, Ax.unV, Ax.addOff, Ax.sizeN, Ax.mkV, Ax.okV, reduceIte, Nat.reduceEqDiff, Nat.reduceAdd, Nat.reduceLeDiff, Nat.reduceLT, Nat.reduceSub, Nat.reduceMul, reduceCtorEq, Int.reduceEq, Int.reduceLT, Int.reduceLE, Int.reduceAdd, Int.reduceSub, Int.reduceNeg, Int.reduceToNat, undef, Value.cells, axL, hh, ho, wi, g1]; rfl) rfl ?_
            | (with_reducible first | refine end_reg (Ev.mono _ _) ?_ | refine end_dreg (Ev.mono _ _) ?_ | refine end_cond (Ev.mono _ _) ?_ | refine end_block (Ev.mono _ _) ?_ | refine end_loop (Ev.mono _ _) ?_))
        refine ⟨(k + 1, v'), by dsimp only; omega, hil, rfl, ?_⟩
        dsimp only
        rw [hs]; exact H3
      · simp only [ho, and_false, if_false, List.append_nil] at hs
        repeat' (first
            | (with_reducible first | refine go_assoc ?_ (Ev.mono _ _) | refine go_skip ?_ | refine go_fin ?_ | refine go_ret ?_ | refine go_ret0 ?_ | refine go_exit ?_ | refine go_exit0 ?_ | refine go_block ?_ | refine n_then ?_ | refine x_then ?_ | refine r_then ?_ | refine n_block ?_ | refine r_block ?_ | refine x_block ?_ | refine x_block_ne ?_ (by decide))
            | (with_reducible refine is_k ?_; refine go_k _ (by simp only [Ax.runK, Ax.runOps, Ax.run1, Ax.wantA, Ax.step, Ax.ev, Ax.evs, Ax.evo, Ax.evp, Ax.look, Ax.putE, Ax.keepE, Ax.argsE, Ax.extr, Ax.binV, Ax.intBin, Ax.unV, Ax.addOff, Ax.sizeN, Ax.mkV, Ax.okV, reduceIte, Nat.reduceEqDiff, Nat.reduceAdd, Nat.reduceLeDiff, Nat.reduceLT, Nat.reduceSub, Nat.reduceMul, reduceCtorEq, Int.reduceEq, Int.reduceLT, Int.reduceLE, Int.reduceAdd, Int.reduceSub, Int.reduceNeg, Int.reduceToNat, undef, Value.cells, axL, hh, ho, wi]; rfl) rfl ?_)
            | (with_reducible refine cond_t ?_ ?_; · simp only [Ax.ev, Ax.look, reduceIte, Nat.reduceEqDiff])
            | (with_reducible refine cond_f ?_ ?_; · simp only [Ax.ev, Ax.look, reduceIte, Nat.reduceEqDiff])
            | (with_reducible refine is_rp ?_; first | refine r_postR rfl ?_ | refine r_postR (by simp only [Ax.result, Ax.resVs, Ax.resV, R17, Ax.look, sizeN, mkV, Nat.reduceEqDiff, reduceIte, axL, hh, ho, wi]; rfl) ?_)
            | (with_reducible refine is_np ?_; first | refine n_postR rfl ?_ | refine n_postR (by simp only [Ax.result, Ax.resVs, Ax.resV, R17, Ax.look, sizeN, mkV, Nat.reduceEqDiff, reduceIte, axL, hh, ho, wi]; rfl) ?_)
            | (first | with_reducible refine is_wd ?_ | with_reducible refine dk_wd ?_); refine go_dt _ (by simp only [Ax.runDK, Ax.runDT, Ax.runDops, Ax.run1d, Ax.recs, Ax.okPair, Ax.idsE, Ax.idsV, AOp.mems, AOp.isWrite, DRec.none, axD, Ax.runK, Ax.runOps, Ax.run1, Ax.wantA, Ax.step, Ax.ev, Ax.evs, Ax.evo, Ax.evp, Ax.look, Ax.putE, Ax.keepE, Ax.argsE, Ax.extr, Ax.binV, Ax.intBin, Ax.unV, Ax.addOff, Ax.sizeN, Ax.mkV, Ax.okV, reduceIte, Nat.reduceEqDiff, Nat.reduceAdd, Nat.reduceLeDiff, Nat.reduceLT, Nat.reduceSub, Nat.reduceMul, reduceCtorEq, Int.reduceEq, Int.reduceLT, Int.reduceLE, Int.reduceAdd, Int.reduceSub, Int.reduceNeg, Int.reduceToNat, undef, Value.cells, axL, hh, ho, wi]; rfl) rfl ?_
            | (with_reducible first | refine end_reg (Ev.mono _ _) ?_ | refine end_dreg (Ev.mono _ _) ?_ | refine end_cond (Ev.mono _ _) ?_ | refine end_block (Ev.mono _ _) ?_ | refine end_loop (Ev.mono _ _) ?_))
        refine ⟨(k + 1, ov), by dsimp only; omega, hil, rfl, ?_⟩
        dsimp only
        rw [hs]; exact H1
  · have hie : i = ms.length := by omega
    subst hie
    rw [List.take_length] at H1
    repeat' (first
        | (with_reducible first | refine go_assoc ?_ (Ev.mono _ _) | refine go_skip ?_ | refine go_fin ?_ | refine go_ret ?_ | refine go_ret0 ?_ | refine go_exit ?_ | refine go_exit0 ?_ | refine go_block ?_ | refine n_then ?_ | refine x_then ?_ | refine r_then ?_ | refine n_block ?_ | refine r_block ?_ | refine x_block ?_ | refine x_block_ne ?_ (by decide))
        | (with_reducible refine is_k ?_; refine go_k _ (by simp only [Ax.runK, Ax.runOps, Ax.run1, Ax.wantA, Ax.step, Ax.ev, Ax.evs, Ax.evo, Ax.evp, Ax.look, Ax.putE, Ax.keepE, Ax.argsE, Ax.extr, Ax.binV, Ax.intBin, Ax.unV, Ax.addOff, Ax.sizeN, Ax.mkV, Ax.okV, reduceIte, Nat.reduceEqDiff, Nat.reduceAdd, Nat.reduceLeDiff, Nat.reduceLT, Nat.reduceSub, Nat.reduceMul, reduceCtorEq, Int.reduceEq, Int.reduceLT, Int.reduceLE, Int.reduceAdd, Int.reduceSub, Int.reduceNeg, Int.reduceToNat, undef, Value.cells, axL]; rfl) rfl ?_)
        | (with_reducible refine cond_t ?_ ?_; · simp only [Ax.ev, Ax.look, reduceIte, Nat.reduceEqDiff])
        | (with_reducible refine cond_f ?_ ?_; · simp only [Ax.ev, Ax.look, reduceIte, Nat.reduceEqDiff])
        | (with_reducible refine is_rp ?_; first | refine r_postR rfl ?_ | refine r_postR (by simp only [Ax.result, Ax.resVs, Ax.resV, R17, Ax.look, sizeN, mkV, Nat.reduceEqDiff, reduceIte, axL]; rfl) ?_)
        | (with_reducible refine is_np ?_; first | refine n_postR rfl ?_ | refine n_postR (by simp only [Ax.result, Ax.resVs, Ax.resV, R17, Ax.look, sizeN, mkV, Nat.reduceEqDiff, reduceIte, axL]; rfl) ?_)
        | (first | with_reducible refine is_wd ?_ | with_reducible refine dk_wd ?_); refine go_dt _ (by simp only [Ax.runDK, Ax.runDT, Ax.runDops, Ax.run1d, Ax.recs, Ax.okPair, Ax.idsE, Ax.idsV, AOp.mems, AOp.isWrite, DRec.none, axD, Ax.runK, Ax.runOps, Ax.run1, Ax.wantA, Ax.step, Ax.ev, Ax.evs, Ax.evo, Ax.evp, Ax.look, Ax.putE, Ax.keepE, Ax.argsE, Ax.extr, Ax.binV, Ax.intBin, Ax.unV, Ax.addOff, Ax.sizeN, Ax.mkV, Ax.okV, reduceIte, Nat.reduceEqDiff, Nat.reduceAdd, Nat.reduceLeDiff, Nat.reduceLT, Nat.reduceSub, Nat.reduceMul, reduceCtorEq, Int.reduceEq, Int.reduceLT, Int.reduceLE, Int.reduceAdd, Int.reduceSub, Int.reduceNeg, Int.reduceToNat, undef, Value.cells, axL]; rfl) rfl ?_
        | (with_reducible first | refine end_reg (Ev.mono _ _) ?_ | refine end_dreg (Ev.mono _ _) ?_ | refine end_cond (Ev.mono _ _) ?_ | refine end_block (Ev.mono _ _) ?_ | refine end_loop (Ev.mono _ _) ?_))
    exact hq _ _ H1

def lockCount (n : Int) : Nat := (if 0 < (if 16 < n then 16 else n) then (if 16 < n then 16 else n) else 0).toNat

def lock0 : LockM := ⟨false, 0, 0, 0, []⟩

theorem encs_rep (k : Nat) : encs (List.replicate k (⟨lock0, .slice none 0 0⟩ : LockP)) = repL [.bool false, .int .i64 0, .int .i64 0, .int .i64 0, .slice none 0 0] k := by
  induction k with
  | zero => rfl
  | succ k ih => rw [List.replicate_succ, encs_cons, ih]; rfl

theorem round_nil (H : St R F S) : ∀ k, St R ((List.replicate k (⟨lock0, .slice none 0 0⟩ : LockP)).map LockP.a ++ F) S
  | 0 => H
  | k + 1 => by
    have := round_nil H k
    rw [List.replicate_succ, List.map_cons, List.cons_append]
    exact RoundA.close (ps := []) (SlT.nil (α := RowP) this)

theorem new_spec (H : St R F S) (n : Int) {Q : Value → AS → Prop} (hq : ∀ L S', St R (LocksA L (List.replicate (lockCount n) lock0) :: F) S' → Q (.pointer (some ⟨L, 0, none⟩)) S') : Ev G X 7 [.int .i64 n] S Q := by
  refine Ev.fnR (rs := R7) (c := A7) rfl ?_; unfold A7
  obtain ⟨k, hk⟩ : ∃ k, k = lockCount n := ⟨_, rfl⟩
  rw [← hk] at hq
  have hk16 : k ≤ 16 := by rw [hk]; unfold lockCount; split <;> split <;> omega
  have h1 : minV (.int .i64 n) (.int .i64 16) = some (.int .i64 (if 16 < n then 16 else n)) := rfl
  have h2 : maxV (.int .i64 0) (.int .i64 (if 16 < n then 16 else n)) = some (.int .i64 k) := by
    rw [hk]; unfold lockCount maxV
    simp only [gt_iff_lt]
    congr 2
    split <;> split <;> omega
  have h3 : Ax.mkSl [.bool false, .int .i64 0, .int .i64 0, .int .i64 0, .slice none 0 0] 56 S (.int .i64 k) (.int .i64 k) = some (.slice (some ⟨S.nx, 0, none⟩) k k, S.new (.cells false (repL [.bool false, .int .i64 0, .int .i64 0, .int .i64 0, .slice none 0 0] k))) := by
    simp only [Ax.mkSl]
    rw [if_pos ⟨by omega, by omega, by omega, by omega⟩]
    simp
  have H1 := H.newc (repL [.bool false, .int .i64 0, .int .i64 0, .int .i64 0, .slice none 0 0] k)
  have H2 : St R (SlT (.slice (some ⟨S.nx, 0, none⟩) k k) (List.replicate k (⟨lock0, .slice none 0 0⟩ : LockP)) :: F) (S.new (.cells false (repL [.bool false, .int .i64 0, .int .i64 0, .int .i64 0, .slice none 0 0] k))) := by
    have hl : (List.replicate k (⟨lock0, .slice none 0 0⟩ : LockP)).length = k := by simp
    unfold SlT
    rw [hl]
    refine Sl.close (b := S.nx) (pre := []) (tail := []) (cap := k) (q := none) ?_ (by rw [encs_len, hl]) (.inl rfl) rfl (by rw [List.append_nil, encs_len, hl]; exact Nat.le_refl _) (Nat.le_refl _)
    rw [encs_rep]
    simpa using H1
  repeat' (first
      | (with_reducible first | refine go_assoc ?_ (Ev.mono _ _) | refine go_skip ?_ | refine go_fin ?_ | refine go_ret ?_ | refine go_ret0 ?_ | refine go_exit ?_ | refine go_exit0 ?_ | refine go_block ?_ | refine n_then ?_ | refine x_then ?_ | refine r_then ?_ | refine n_block ?_ | refine r_block ?_ | refine x_block ?_ | refine x_block_ne ?_ (by decide))
      | (with_reducible refine is_k ?_; refine go_k _ (by simp only [Ax.runK, Ax.runOps, Ax.run1, Ax.wantA, Ax.step, Ax.ev, Ax.evs, Ax.evo, Ax.evp, Ax.look, Ax.putE, Ax.keepE, Ax.argsE, Ax.extr, Ax.binV, Ax.intBin, Ax.unV, Ax.addOff, Ax.sizeN, Ax.mkV, Ax.okV, reduceIte, Nat.reduceEqDiff, Nat.reduceAdd, Nat.reduceLeDiff, Nat.reduceLT, Nat.reduceSub, Nat.reduceMul, reduceCtorEq, Int.reduceEq, Int.reduceLT, Int.reduceLE, Int.reduceAdd, Int.reduceSub, Int.reduceNeg, Int.reduceToNat, undef, Value.cells, axL]; rfl) rfl ?_)
      | (with_reducible refine cond_t ?_ ?_; · simp only [Ax.ev, Ax.look, reduceIte, Nat.reduceEqDiff])
      | (with_reducible refine cond_f ?_ ?_; · simp only [Ax.ev, Ax.look, reduceIte, Nat.reduceEqDiff])
      | (with_reducible refine is_rp ?_; first | refine r_postR rfl ?_ | refine r_postR (by simp only [Ax.result, Ax.resVs, Ax.resV, R7, Ax.look, sizeN, mkV, Nat.reduceEqDiff, reduceIte, axL]; rfl) ?_)
      | (with_reducible refine is_np ?_; first | refine n_postR rfl ?_ | refine n_postR (by simp only [Ax.result, Ax.resVs, Ax.resV, R7, Ax.look, sizeN, mkV, Nat.reduceEqDiff, reduceIte, axL]; rfl) ?_)
      | (first | with_reducible refine is_wd ?_ | with_reducible refine dk_wd ?_); refine go_dt _ (by simp only [Ax.runDK, Ax.runDT, Ax.runDops, Ax.run1d, Ax.recs, Ax.okPair, Ax.idsE, Ax.idsV, AOp.mems, AOp.isWrite, DRec.none, axD, Ax.runK, Ax.runOps, Ax.run1, Ax.wantA, Ax.step, Ax.ev, Ax.evs, Ax.evo, Ax.evp, Ax.look, Ax.putE, Ax.keepE, Ax.argsE, Ax.extr, Ax.binV, Ax.intBin, Ax.unV, Ax.addOff, Ax.sizeN, Ax.mkV, Ax.okV, reduceIte, Nat.reduceEqDiff, Nat.reduceAdd, Nat.reduceLeDiff, Nat.reduceLT, Nat.reduceSub, Nat.reduceMul, reduceCtorEq, Int.reduceEq, Int.reduceLT, Int.reduceLE, Int.reduceAdd, Int.reduceSub, Int.reduceNeg, Int.reduceToNat, undef, Value.cells, axL]; rfl) rfl ?_
      | (with_reducible first | refine end_reg (Ev.mono _ _) ?_ | refine end_dreg (Ev.mono _ _) ?_ | refine end_cond (Ev.mono _ _) ?_ | refine end_block (Ev.mono _ _) ?_ | refine end_loop (Ev.mono _ _) ?_))
  have H3 := H2.newc [.slice (some ⟨S.nx, 0, none⟩) k k]
  repeat' (first
      | (with_reducible first | refine go_assoc ?_ (Ev.mono _ _) | refine go_skip ?_ | refine go_fin ?_ | refine go_ret ?_ | refine go_ret0 ?_ | refine go_exit ?_ | refine go_exit0 ?_ | refine go_block ?_ | refine n_then ?_ | refine x_then ?_ | refine r_then ?_ | refine n_block ?_ | refine r_block ?_ | refine x_block ?_ | refine x_block_ne ?_ (by decide))
      | (with_reducible refine is_k ?_; refine go_k _ (by simp only [Ax.runK, Ax.runOps, Ax.run1, Ax.wantA, Ax.step, Ax.ev, Ax.evs, Ax.evo, Ax.evp, Ax.look, Ax.putE, Ax.keepE, Ax.argsE, Ax.extr, Ax.binV, Ax.intBin, Ax.unV, Ax.addOff, Ax.sizeN, Ax.mkV, Ax.okV, reduceIte, Nat.reduceEqDiff, Nat.reduceAdd, Nat.reduceLeDiff, Nat.reduceLT, Nat.reduceSub, Nat.reduceMul, reduceCtorEq, Int.reduceEq, Int.reduceLT, Int.reduceLE, Int.reduceAdd, Int.reduceSub, Int.reduceNeg, Int.reduceToNat, undef, Value.cells, axL, h1, h2, h3]; rfl) rfl ?_)
      | (with_reducible refine cond_t ?_ ?_; · simp only [Ax.ev, Ax.look, reduceIte, Nat.reduceEqDiff])
      | (with_reducible refine cond_f ?_ ?_; · simp only [Ax.ev, Ax.look, reduceIte, Nat.reduceEqDiff])
      | (with_reducible refine is_rp ?_; first | refine r_postR rfl ?_ | refine r_postR (by simp only [Ax.result, Ax.resVs, Ax.resV, R7, Ax.look, sizeN, mkV, Nat.reduceEqDiff, reduceIte, axL, h1, h2, h3]; rfl) ?_)
      | (with_reducible refine is_np ?_; first | refine n_postR rfl ?_ | refine n_postR (by simp only [Ax.result, Ax.resVs, Ax.resV, R7, Ax.look, sizeN, mkV, Nat.reduceEqDiff, reduceIte, axL, h1, h2, h3]; rfl) ?_)
      | (first | with_reducible refine is_wd ?_ | with_reducible refine dk_wd ?_); refine go_dt _ (by simp only [Ax.runDK, Ax.runDT, Ax.runDops, Ax.run1d, Ax.recs, Ax.okPair, Ax.idsE, Ax.idsV, AOp.mems, AOp.isWrite, DRec.none, axD, Ax.runK, Ax.runOps, Ax.run1, Ax.wantA, Ax.step, Ax.ev, Ax.evs, Ax.evo, Ax.evp, Ax.look, Ax.putE, Ax.keepE, Ax.argsE, Ax.extr, Ax.binV, Ax.intBin, Ax.unV, Ax.addOff, Ax.sizeN, Ax.mkV, Ax.okV, reduceIte, Nat.reduceEqDiff, Nat.reduceAdd, Nat.reduceLeDiff, Nat.reduceLT, Nat.reduceSub, Nat.reduceMul, reduceCtorEq, Int.reduceEq, Int.reduceLT, Int.reduceLE, Int.reduceAdd, Int.reduceSub, Int.reduceNeg, Int.reduceToNat, undef, Value.cells, axL, h1, h2, h3]; rfl) rfl ?_
      | (with_reducible first | refine end_reg (Ev.mono _ _) ?_ | refine end_dreg (Ev.mono _ _) ?_ | refine end_cond (Ev.mono _ _) ?_ | refine end_block (Ev.mono _ _) ?_ | refine end_loop (Ev.mono _ _) ?_))
  refine hq _ _ ?_
  have h4 := LocksA.close (L := S.nx + 1) (lv := .slice (some ⟨S.nx, 0, none⟩) k k) (ps := List.replicate k (⟨lock0, .slice none 0 0⟩ : LockP)) (F := F) (R := R) (S := (S.new (.cells false (repL [.bool false, .int .i64 0, .int .i64 0, .int .i64 0, .slice none 0 0] k))).new (.cells false [.slice (some ⟨S.nx, 0, none⟩) k k])) (by
    have h5 := round_nil (H3.pick 2 [0, 1] rfl) k
    exact St.past ((List.replicate k (⟨lock0, .slice none 0 0⟩ : LockP)).map LockP.a) (A := [pts (S.nx + 1) [.slice (some ⟨S.nx, 0, none⟩) k k], SlT (.slice (some ⟨S.nx, 0, none⟩) k k) (List.replicate k (⟨lock0, .slice none 0 0⟩ : LockP))]) (F := F) h5)
  rw [List.map_replicate] at h4
  exact h4
end
end Go.Proofs.Ytgnjkkppahhhfaa

