/- Part 3 of Order. -/
import Derived.Test.YtgnjkkppahhhfaaOrder2
set_option linter.unusedVariables false
set_option linter.unusedSimpArgs false
set_option linter.unnecessarySimpa false
/- Law 14: one lock alone; no locks; CohortOwner. -/
namespace Go.Proofs.Ytgnjkkppahhhfaa
open Go.Ax
open Go.Ax.Enc (enc)

section
variable (X : Nat → List Value → Option Value) {R : Nat → Option (List Value)} {F : List Asn} {S : AS} {L : Nat} {m : LockM}

theorem take1_spec (H : St R (LocksA L [m] :: F) S) (hs : Small m) (t s : Int) {Q : Value → AS → Prop} (hq : ∀ S', St R (LocksA L [(takeM m t s).1] :: F) S' → Q (.tuple #[.bool (takeM m t s).2.1, .int .i64 (takeM m t s).2.2]) S') : Ev G X 8 [.pointer (some ⟨L, 0, none⟩), .int .i64 0, .int .i64 t, .int .i64 s] S Q := by
  refine take_spec X H (by simpa using hs) 0 t s (fun h => absurd ⟨by omega, by simp⟩ h) (fun k hk hkl S' H' => ?_)
  have : k = 0 := by omega
  subst this
  exact hq S' H'

theorem give1_spec (H : St R (LocksA L [m] :: F) S) (hs : LkInv m) (t : Int) {Q : Value → AS → Prop} (hq : ∀ S', St R (LocksA L [(giveM m t).1] :: F) S' → Q (.tuple #[.int .i64 (giveM m t).2.1, .bool (giveM m t).2.2.1, .int .i64 (giveM m t).2.2.2]) S') : Ev G X 10 [.pointer (some ⟨L, 0, none⟩), .int .i64 0, .int .i64 t] S Q := by
  refine give_spec X H (by simpa using hs) 0 t (fun h => absurd ⟨by omega, by simp⟩ h) (fun k hk hkl S' H' => ?_)
  have : k = 0 := by omega
  subst this
  exact hq S' H'

theorem owner1_spec (H : St R (LocksA L [m] :: F) S) {Q : Value → AS → Prop} (hq : Q (.tuple #[.int .i64 (if m.held = true then m.owner else 0), .bool m.held]) S) : Ev G X 9 [.pointer (some ⟨L, 0, none⟩), .int .i64 0] S Q := by
  refine owner_spec X H 0 (fun h => absurd ⟨by omega, by simp⟩ h) (fun k hk hkl => ?_)
  have : k = 0 := by omega
  subst this
  exact hq

theorem socket1_spec (H : St R (LocksA L [m] :: F) S) {Q : Value → AS → Prop} (hq : Q (.int .i64 m.socket) S) : Ev G X 12 [.pointer (some ⟨L, 0, none⟩), .int .i64 0] S Q := by
  refine socket_spec X H 0 (fun h => absurd ⟨by omega, by simp⟩ h) (fun k hk hkl => ?_)
  have : k = 0 := by omega
  subst this
  exact hq

theorem waiting1_spec (H : St R (LocksA L [m] :: F) S) (hs : Small m) (hw : (waitL m).length < 1000000) {Q : Value → AS → Prop} (hq : ∀ v S', St R (SlT v (waitL m) :: LocksA L [m] :: F) S' → Q v S') : Ev G X 13 [.pointer (some ⟨L, 0, none⟩), .int .i64 0] S Q := by
  refine waiting_spec X H (by simpa using hs) (by simpa using hw) 0 (fun h => absurd ⟨by omega, by simp⟩ h) (fun k hk hkl v S' H' => ?_)
  have : k = 0 := by omega
  subst this
  exact hq v S' H'

theorem nlen_spec {Q : Value → AS → Prop} (hq : Q (.int .i64 0) S) : Ev G X 16 [.pointer none] S Q := by
  refine Ev.fnR (rs := R16) (c := A16) rfl ?_; unfold A16
  repeat' (first
      | (with_reducible first | refine go_assoc ?_ (Ev.mono _ _) | refine go_skip ?_ | refine go_fin ?_ | refine go_ret ?_ | refine go_ret0 ?_ | refine go_exit ?_ | refine go_exit0 ?_ | refine go_block ?_ | refine n_then ?_ | refine x_then ?_ | refine r_then ?_ | refine n_block ?_ | refine r_block ?_ | refine x_block ?_ | refine x_block_ne ?_ (by decide))
      | (with_reducible refine is_k ?_; refine go_k _ (by simp only [Ax.runK, Ax.runOps, Ax.run1, Ax.wantA, Ax.step, Ax.ev, Ax.evs, Ax.evo, Ax.evp, Ax.look, Ax.putE, Ax.keepE, Ax.argsE, Ax.extr, Ax.binV, Ax.intBin, Ax.unV, Ax.addOff, Ax.sizeN, Ax.mkV, Ax.okV, reduceIte, Nat.reduceEqDiff, Nat.reduceAdd, Nat.reduceLeDiff, Nat.reduceLT, Nat.reduceSub, Nat.reduceMul, reduceCtorEq, Int.reduceEq, Int.reduceLT, Int.reduceLE, Int.reduceAdd, Int.reduceSub, Int.reduceNeg, Int.reduceToNat, undef, Value.cells, axL]; rfl) rfl ?_)
      | (with_reducible refine cond_t ?_ ?_; · simp only [Ax.ev, Ax.look, reduceIte, Nat.reduceEqDiff])
      | (with_reducible refine cond_f ?_ ?_; · simp only [Ax.ev, Ax.look, reduceIte, Nat.reduceEqDiff])
      | (with_reducible refine is_rp ?_; first | refine r_postR rfl ?_ | refine r_postR (by simp only [Ax.result, Ax.resVs, Ax.resV, R16, Ax.look, sizeN, mkV, Nat.reduceEqDiff, reduceIte, axL]; rfl) ?_)
      | (with_reducible refine is_np ?_; first | refine n_postR rfl ?_ | refine n_postR (by simp only [Ax.result, Ax.resVs, Ax.resV, R16, Ax.look, sizeN, mkV, Nat.reduceEqDiff, reduceIte, axL]; rfl) ?_)
      | (first | with_reducible refine is_wd ?_ | with_reducible refine dk_wd ?_); refine go_dt _ (by simp only [Ax.runDK, Ax.runDT, Ax.runDops, Ax.run1d, Ax.recs, Ax.okPair, Ax.idsE, Ax.idsV, AOp.mems, AOp.isWrite, DRec.none, axD, Ax.runK, Ax.runOps, Ax.run1, Ax.wantA, Ax.step, Ax.ev, Ax.evs, Ax.evo, Ax.evp, Ax.look, Ax.putE, Ax.keepE, Ax.argsE, Ax.extr, Ax.binV, Ax.intBin, Ax.unV, Ax.addOff, Ax.sizeN, Ax.mkV, Ax.okV, reduceIte, Nat.reduceEqDiff, Nat.reduceAdd, Nat.reduceLeDiff, Nat.reduceLT, Nat.reduceSub, Nat.reduceMul, reduceCtorEq, Int.reduceEq, Int.reduceLT, Int.reduceLE, Int.reduceAdd, Int.reduceSub, Int.reduceNeg, Int.reduceToNat, undef, Value.cells, axL]; rfl) rfl ?_
      | (with_reducible first | refine end_reg (Ev.mono _ _) ?_ | refine end_dreg (Ev.mono _ _) ?_ | refine end_cond (Ev.mono _ _) ?_ | refine end_block (Ev.mono _ _) ?_ | refine end_loop (Ev.mono _ _) ?_))
  exact hq

theorem nat_spec {n : Int} {Q : Value → AS → Prop} (hq : Q (.pointer none) S) : Ev G X 18 [.pointer none, .int .i64 n] S Q := by
  refine Ev.fnR (rs := R18) (c := A18) rfl ?_; unfold A18
  by_cases h0 : n < 0
  · repeat' (first
        | (with_reducible first | refine go_assoc ?_ (Ev.mono _ _) | refine go_skip ?_ | refine go_fin ?_ | refine go_ret ?_ | refine go_ret0 ?_ | refine go_exit ?_ | refine go_exit0 ?_ | refine go_block ?_ | refine n_then ?_ | refine x_then ?_ | refine r_then ?_ | refine n_block ?_ | refine r_block ?_ | refine x_block ?_ | refine x_block_ne ?_ (by decide))
        | (with_reducible refine is_k ?_; refine go_k _ (by simp only [Ax.runK, Ax.runOps, Ax.run1, Ax.wantA, Ax.step, Ax.ev, Ax.evs, Ax.evo, Ax.evp, Ax.look, Ax.putE, Ax.keepE, Ax.argsE, Ax.extr, Ax.binV, Ax.intBin, Ax.unV, Ax.addOff, Ax.sizeN, Ax.mkV, Ax.okV, reduceIte, Nat.reduceEqDiff, Nat.reduceAdd, Nat.reduceLeDiff, Nat.reduceLT, Nat.reduceSub, Nat.reduceMul, reduceCtorEq, Int.reduceEq, Int.reduceLT, Int.reduceLE, Int.reduceAdd, Int.reduceSub, Int.reduceNeg, Int.reduceToNat, undef, Value.cells, axL, h0]; rfl) rfl ?_)
        | (with_reducible refine cond_t ?_ ?_; · simp only [Ax.ev, Ax.look, reduceIte, Nat.reduceEqDiff])
        | (with_reducible refine cond_f ?_ ?_; · simp only [Ax.ev, Ax.look, reduceIte, Nat.reduceEqDiff])
        | (with_reducible refine is_rp ?_; first | refine r_postR rfl ?_ | refine r_postR (by simp only [Ax.result, Ax.resVs, Ax.resV, R18, Ax.look, sizeN, mkV, Nat.reduceEqDiff, reduceIte, axL, h0]; rfl) ?_)
        | (with_reducible refine is_np ?_; first | refine n_postR rfl ?_ | refine n_postR (by simp only [Ax.result, Ax.resVs, Ax.resV, R18, Ax.look, sizeN, mkV, Nat.reduceEqDiff, reduceIte, axL, h0]; rfl) ?_)
        | (first | with_reducible refine is_wd ?_ | with_reducible refine dk_wd ?_); refine go_dt _ (by simp only [Ax.runDK, Ax.runDT, Ax.runDops, Ax.run1d, Ax.recs, Ax.okPair, Ax.idsE, Ax.idsV, AOp.mems, AOp.isWrite, DRec.none, axD, Ax.runK, Ax.runOps, Ax.run1, Ax.wantA, Ax.step, Ax.ev, Ax.evs, Ax.evo, Ax.evp, Ax.look, Ax.putE, Ax.keepE, Ax.argsE, Ax.extr, Ax.binV, Ax.intBin, Ax.unV, Ax.addOff, Ax.sizeN, Ax.mkV, Ax.okV, reduceIte, Nat.reduceEqDiff, Nat.reduceAdd, Nat.reduceLeDiff, Nat.reduceLT, Nat.reduceSub, Nat.reduceMul, reduceCtorEq, Int.reduceEq, Int.reduceLT, Int.reduceLE, Int.reduceAdd, Int.reduceSub, Int.reduceNeg, Int.reduceToNat, undef, Value.cells, axL, h0]; rfl) rfl ?_
        | (with_reducible first | refine end_reg (Ev.mono _ _) ?_ | refine end_dreg (Ev.mono _ _) ?_ | refine end_cond (Ev.mono _ _) ?_ | refine end_block (Ev.mono _ _) ?_ | refine end_loop (Ev.mono _ _) ?_))
    exact hq
  · have h1 : 0 ≤ n := by omega
    repeat' (first
        | (with_reducible first | refine go_assoc ?_ (Ev.mono _ _) | refine go_skip ?_ | refine go_fin ?_ | refine go_ret ?_ | refine go_ret0 ?_ | refine go_exit ?_ | refine go_exit0 ?_ | refine go_block ?_ | refine n_then ?_ | refine x_then ?_ | refine r_then ?_ | refine n_block ?_ | refine r_block ?_ | refine x_block ?_ | refine x_block_ne ?_ (by decide))
        | (with_reducible refine is_k ?_; refine go_k _ (by simp only [Ax.runK, Ax.runOps, Ax.run1, Ax.wantA, Ax.step, Ax.ev, Ax.evs, Ax.evo, Ax.evp, Ax.look, Ax.putE, Ax.keepE, Ax.argsE, Ax.extr, Ax.binV, Ax.intBin, Ax.unV, Ax.addOff, Ax.sizeN, Ax.mkV, Ax.okV, reduceIte, Nat.reduceEqDiff, Nat.reduceAdd, Nat.reduceLeDiff, Nat.reduceLT, Nat.reduceSub, Nat.reduceMul, reduceCtorEq, Int.reduceEq, Int.reduceLT, Int.reduceLE, Int.reduceAdd, Int.reduceSub, Int.reduceNeg, Int.reduceToNat, undef, Value.cells, axL]; rfl) rfl ?_)
        | (with_reducible refine cond_t ?_ ?_; · simp only [Ax.ev, Ax.look, reduceIte, Nat.reduceEqDiff])
        | (with_reducible refine cond_f ?_ ?_; · simp only [Ax.ev, Ax.look, reduceIte, Nat.reduceEqDiff])
        | (with_reducible refine is_rp ?_; first | refine r_postR rfl ?_ | refine r_postR (by simp only [Ax.result, Ax.resVs, Ax.resV, R18, Ax.look, sizeN, mkV, Nat.reduceEqDiff, reduceIte, axL]; rfl) ?_)
        | (with_reducible refine is_np ?_; first | refine n_postR rfl ?_ | refine n_postR (by simp only [Ax.result, Ax.resVs, Ax.resV, R18, Ax.look, sizeN, mkV, Nat.reduceEqDiff, reduceIte, axL]; rfl) ?_)
        | (first | with_reducible refine is_wd ?_ | with_reducible refine dk_wd ?_); refine go_dt _ (by simp only [Ax.runDK, Ax.runDT, Ax.runDops, Ax.run1d, Ax.recs, Ax.okPair, Ax.idsE, Ax.idsV, AOp.mems, AOp.isWrite, DRec.none, axD, Ax.runK, Ax.runOps, Ax.run1, Ax.wantA, Ax.step, Ax.ev, Ax.evs, Ax.evo, Ax.evp, Ax.look, Ax.putE, Ax.keepE, Ax.argsE, Ax.extr, Ax.binV, Ax.intBin, Ax.unV, Ax.addOff, Ax.sizeN, Ax.mkV, Ax.okV, reduceIte, Nat.reduceEqDiff, Nat.reduceAdd, Nat.reduceLeDiff, Nat.reduceLT, Nat.reduceSub, Nat.reduceMul, reduceCtorEq, Int.reduceEq, Int.reduceLT, Int.reduceLE, Int.reduceAdd, Int.reduceSub, Int.reduceNeg, Int.reduceToNat, undef, Value.cells, axL]; rfl) rfl ?_
        | (with_reducible first | refine end_reg (Ev.mono _ _) ?_ | refine end_dreg (Ev.mono _ _) ?_ | refine end_cond (Ev.mono _ _) ?_ | refine end_block (Ev.mono _ _) ?_ | refine end_loop (Ev.mono _ _) ?_))
    repeat' (with_reducible first | refine go_assoc ?_ (Ev.mono _ _) | refine go_skip ?_ | refine go_block ?_ | refine end_reg (Ev.mono _ _) ?_)
    refine go_callC _ (by simp only [Ax.runC, AOp.isCall, Ax.runK, Ax.runOps, Ax.run1, Ax.wantA, Ax.step, Ax.ev, Ax.evs, Ax.evo, Ax.evp, Ax.look, Ax.putE, Ax.keepE, Ax.argsE, Ax.extr, Ax.binV, Ax.intBin, Ax.unV, Ax.addOff, Ax.sizeN, Ax.mkV, Ax.okV, reduceIte, Nat.reduceEqDiff, Nat.reduceAdd, Nat.reduceLeDiff, Nat.reduceLT, Nat.reduceSub, Nat.reduceMul, reduceCtorEq, Int.reduceEq, Int.reduceLT, Int.reduceLE, Int.reduceAdd, Int.reduceSub, Int.reduceNeg, Int.reduceToNat, undef, Value.cells, axL, h0]; rfl) rfl rfl (by simp only [Ax.wantA, Ax.look, reduceIte, Nat.reduceEqDiff, bq_t, bq_f, Bool.not_true, Bool.not_false]; try rfl) rfl (by simp only [Ax.runK, Ax.runOps, Ax.run1, Ax.wantA, Ax.step, Ax.ev, Ax.evs, Ax.evo, Ax.evp, Ax.look, Ax.putE, Ax.keepE, Ax.argsE, Ax.extr, Ax.binV, Ax.intBin, Ax.unV, Ax.addOff, Ax.sizeN, Ax.mkV, Ax.okV, reduceIte, Nat.reduceEqDiff, Nat.reduceAdd, Nat.reduceLeDiff, Nat.reduceLT, Nat.reduceSub, Nat.reduceMul, reduceCtorEq, Int.reduceEq, Int.reduceLT, Int.reduceLE, Int.reduceAdd, Int.reduceSub, Int.reduceNeg, Int.reduceToNat, undef, Value.cells, axL, h0]; try rfl) ?_
    refine nlen_spec X ?_
    repeat' (first
        | (with_reducible first | refine go_assoc ?_ (Ev.mono _ _) | refine go_skip ?_ | refine go_fin ?_ | refine go_ret ?_ | refine go_ret0 ?_ | refine go_exit ?_ | refine go_exit0 ?_ | refine go_block ?_ | refine n_then ?_ | refine x_then ?_ | refine r_then ?_ | refine n_block ?_ | refine r_block ?_ | refine x_block ?_ | refine x_block_ne ?_ (by decide))
        | (with_reducible refine is_k ?_; refine go_k _ (by simp only [Ax.runK, Ax.runOps, Ax.run1, Ax.wantA, Ax.step, Ax.ev, Ax.evs, Ax.evo, Ax.evp, Ax.look, Ax.putE, Ax.keepE, Ax.argsE, Ax.extr, Ax.binV, Ax.intBin, Ax.unV, Ax.addOff, Ax.sizeN, Ax.mkV, Ax.okV, reduceIte, Nat.reduceEqDiff, Nat.reduceAdd, Nat.reduceLeDiff, Nat.reduceLT, Nat.reduceSub, Nat.reduceMul, reduceCtorEq, Int.reduceEq, Int.reduceLT, Int.reduceLE, Int.reduceAdd, Int.reduceSub, Int.reduceNeg, Int.reduceToNat, undef, Value.cells, axL, h1]; rfl) rfl ?_)
        | (with_reducible refine cond_t ?_ ?_; · simp only [Ax.ev, Ax.look, reduceIte, Nat.reduceEqDiff])
        | (with_reducible refine cond_f ?_ ?_; · simp only [Ax.ev, Ax.look, reduceIte, Nat.reduceEqDiff])
        | (with_reducible refine is_rp ?_; first | refine r_postR rfl ?_ | refine r_postR (by simp only [Ax.result, Ax.resVs, Ax.resV, R18, Ax.look, sizeN, mkV, Nat.reduceEqDiff, reduceIte, axL, h1]; rfl) ?_)
        | (with_reducible refine is_np ?_; first | refine n_postR rfl ?_ | refine n_postR (by simp only [Ax.result, Ax.resVs, Ax.resV, R18, Ax.look, sizeN, mkV, Nat.reduceEqDiff, reduceIte, axL, h1]; rfl) ?_)
        | (first | with_reducible refine is_wd ?_ | with_reducible refine dk_wd ?_); refine go_dt _ (by simp only [Ax.runDK, Ax.runDT, Ax.runDops, Ax.run1d, Ax.recs, Ax.okPair, Ax.idsE, Ax.idsV, AOp.mems, AOp.isWrite, DRec.none, axD, Ax.runK, Ax.runOps, Ax.run1, Ax.wantA, Ax.step, Ax.ev, Ax.evs, Ax.evo, Ax.evp, Ax.look, Ax.putE, Ax.keepE, Ax.argsE, Ax.extr, Ax.binV, Ax.intBin, Ax.unV, Ax.addOff, Ax.sizeN, Ax.mkV, Ax.okV, reduceIte, Nat.reduceEqDiff, Nat.reduceAdd, Nat.reduceLeDiff, Nat.reduceLT, Nat.reduceSub, Nat.reduceMul, reduceCtorEq, Int.reduceEq, Int.reduceLT, Int.reduceLE, Int.reduceAdd, Int.reduceSub, Int.reduceNeg, Int.reduceToNat, undef, Value.cells, axL, h1]; rfl) rfl ?_
        | (with_reducible first | refine end_reg (Ev.mono _ _) ?_ | refine end_dreg (Ev.mono _ _) ?_ | refine end_cond (Ev.mono _ _) ?_ | refine end_block (Ev.mono _ _) ?_ | refine end_loop (Ev.mono _ _) ?_))
    exact hq

theorem ntake_spec (n t s : Int) {Q : Value → AS → Prop} (hq : Q (.tuple #[.bool false, .int .i64 3]) S) : Ev G X 8 [.pointer none, .int .i64 n, .int .i64 t, .int .i64 s] S Q := by
  refine Ev.fnR (rs := R8) (c := A8) rfl ?_; unfold A8
  repeat' (first
      | (with_reducible first | refine go_assoc ?_ (Ev.mono _ _) | refine go_skip ?_ | refine go_fin ?_ | refine go_ret ?_ | refine go_ret0 ?_ | refine go_exit ?_ | refine go_exit0 ?_ | refine go_block ?_ | refine n_then ?_ | refine x_then ?_ | refine r_then ?_ | refine n_block ?_ | refine r_block ?_ | refine x_block ?_ | refine x_block_ne ?_ (by decide))
      | (with_reducible refine is_k ?_; refine go_k _ (by simp only [Ax.runK, Ax.runOps, Ax.run1, Ax.wantA, Ax.step, Ax.ev, Ax.evs, Ax.evo, Ax.evp, Ax.look, Ax.putE, Ax.keepE, Ax.argsE, Ax.extr, Ax.binV, Ax.intBin, Ax.unV, Ax.addOff, Ax.sizeN, Ax.mkV, Ax.okV, reduceIte, Nat.reduceEqDiff, Nat.reduceAdd, Nat.reduceLeDiff, Nat.reduceLT, Nat.reduceSub, Nat.reduceMul, reduceCtorEq, Int.reduceEq, Int.reduceLT, Int.reduceLE, Int.reduceAdd, Int.reduceSub, Int.reduceNeg, Int.reduceToNat, undef, Value.cells, axL]; rfl) rfl ?_)
      | (with_reducible refine cond_t ?_ ?_; · simp only [Ax.ev, Ax.look, reduceIte, Nat.reduceEqDiff])
      | (with_reducible refine cond_f ?_ ?_; · simp only [Ax.ev, Ax.look, reduceIte, Nat.reduceEqDiff])
      | (with_reducible refine is_rp ?_; first | refine r_postR rfl ?_ | refine r_postR (by simp only [Ax.result, Ax.resVs, Ax.resV, R8, Ax.look, sizeN, mkV, Nat.reduceEqDiff, reduceIte, axL]; rfl) ?_)
      | (with_reducible refine is_np ?_; first | refine n_postR rfl ?_ | refine n_postR (by simp only [Ax.result, Ax.resVs, Ax.resV, R8, Ax.look, sizeN, mkV, Nat.reduceEqDiff, reduceIte, axL]; rfl) ?_)
      | (first | with_reducible refine is_wd ?_ | with_reducible refine dk_wd ?_); refine go_dt _ (by simp only [Ax.runDK, Ax.runDT, Ax.runDops, Ax.run1d, Ax.recs, Ax.okPair, Ax.idsE, Ax.idsV, AOp.mems, AOp.isWrite, DRec.none, axD, Ax.runK, Ax.runOps, Ax.run1, Ax.wantA, Ax.step, Ax.ev, Ax.evs, Ax.evo, Ax.evp, Ax.look, Ax.putE, Ax.keepE, Ax.argsE, Ax.extr, Ax.binV, Ax.intBin, Ax.unV, Ax.addOff, Ax.sizeN, Ax.mkV, Ax.okV, reduceIte, Nat.reduceEqDiff, Nat.reduceAdd, Nat.reduceLeDiff, Nat.reduceLT, Nat.reduceSub, Nat.reduceMul, reduceCtorEq, Int.reduceEq, Int.reduceLT, Int.reduceLE, Int.reduceAdd, Int.reduceSub, Int.reduceNeg, Int.reduceToNat, undef, Value.cells, axL]; rfl) rfl ?_
      | (with_reducible first | refine end_reg (Ev.mono _ _) ?_ | refine end_dreg (Ev.mono _ _) ?_ | refine end_cond (Ev.mono _ _) ?_ | refine end_block (Ev.mono _ _) ?_ | refine end_loop (Ev.mono _ _) ?_))
  repeat' (with_reducible first | refine go_assoc ?_ (Ev.mono _ _) | refine go_skip ?_ | refine go_block ?_ | refine end_reg (Ev.mono _ _) ?_)
  refine go_callC _ (by simp only [Ax.runC, AOp.isCall, Ax.runK, Ax.runOps, Ax.run1, Ax.wantA, Ax.step, Ax.ev, Ax.evs, Ax.evo, Ax.evp, Ax.look, Ax.putE, Ax.keepE, Ax.argsE, Ax.extr, Ax.binV, Ax.intBin, Ax.unV, Ax.addOff, Ax.sizeN, Ax.mkV, Ax.okV, reduceIte, Nat.reduceEqDiff, Nat.reduceAdd, Nat.reduceLeDiff, Nat.reduceLT, Nat.reduceSub, Nat.reduceMul, reduceCtorEq, Int.reduceEq, Int.reduceLT, Int.reduceLE, Int.reduceAdd, Int.reduceSub, Int.reduceNeg, Int.reduceToNat, undef, Value.cells, axL]; rfl) rfl rfl (by simp only [Ax.wantA, Ax.look, reduceIte, Nat.reduceEqDiff, bq_t, bq_f, Bool.not_true, Bool.not_false]; try rfl) rfl (by simp only [Ax.runK, Ax.runOps, Ax.run1, Ax.wantA, Ax.step, Ax.ev, Ax.evs, Ax.evo, Ax.evp, Ax.look, Ax.putE, Ax.keepE, Ax.argsE, Ax.extr, Ax.binV, Ax.intBin, Ax.unV, Ax.addOff, Ax.sizeN, Ax.mkV, Ax.okV, reduceIte, Nat.reduceEqDiff, Nat.reduceAdd, Nat.reduceLeDiff, Nat.reduceLT, Nat.reduceSub, Nat.reduceMul, reduceCtorEq, Int.reduceEq, Int.reduceLT, Int.reduceLE, Int.reduceAdd, Int.reduceSub, Int.reduceNeg, Int.reduceToNat, undef, Value.cells, axL]; try rfl) ?_
  refine nat_spec X ?_
  repeat' (first
      | (with_reducible first | refine go_assoc ?_ (Ev.mono _ _) | refine go_skip ?_ | refine go_fin ?_ | refine go_ret ?_ | refine go_ret0 ?_ | refine go_exit ?_ | refine go_exit0 ?_ | refine go_block ?_ | refine n_then ?_ | refine x_then ?_ | refine r_then ?_ | refine n_block ?_ | refine r_block ?_ | refine x_block ?_ | refine x_block_ne ?_ (by decide))
      | (with_reducible refine is_k ?_; refine go_k _ (by simp only [Ax.runK, Ax.runOps, Ax.run1, Ax.wantA, Ax.step, Ax.ev, Ax.evs, Ax.evo, Ax.evp, Ax.look, Ax.putE, Ax.keepE, Ax.argsE, Ax.extr, Ax.binV, Ax.intBin, Ax.unV, Ax.addOff, Ax.sizeN, Ax.mkV, Ax.okV, reduceIte, Nat.reduceEqDiff, Nat.reduceAdd, Nat.reduceLeDiff, Nat.reduceLT, Nat.reduceSub, Nat.reduceMul, reduceCtorEq, Int.reduceEq, Int.reduceLT, Int.reduceLE, Int.reduceAdd, Int.reduceSub, Int.reduceNeg, Int.reduceToNat, undef, Value.cells, axL]; rfl) rfl ?_)
      | (with_reducible refine cond_t ?_ ?_; · simp only [Ax.ev, Ax.look, reduceIte, Nat.reduceEqDiff])
      | (with_reducible refine cond_f ?_ ?_; · simp only [Ax.ev, Ax.look, reduceIte, Nat.reduceEqDiff])
      | (with_reducible refine is_rp ?_; first | refine r_postR rfl ?_ | refine r_postR (by simp only [Ax.result, Ax.resVs, Ax.resV, R8, Ax.look, sizeN, mkV, Nat.reduceEqDiff, reduceIte, axL]; rfl) ?_)
      | (with_reducible refine is_np ?_; first | refine n_postR rfl ?_ | refine n_postR (by simp only [Ax.result, Ax.resVs, Ax.resV, R8, Ax.look, sizeN, mkV, Nat.reduceEqDiff, reduceIte, axL]; rfl) ?_)
      | (first | with_reducible refine is_wd ?_ | with_reducible refine dk_wd ?_); refine go_dt _ (by simp only [Ax.runDK, Ax.runDT, Ax.runDops, Ax.run1d, Ax.recs, Ax.okPair, Ax.idsE, Ax.idsV, AOp.mems, AOp.isWrite, DRec.none, axD, Ax.runK, Ax.runOps, Ax.run1, Ax.wantA, Ax.step, Ax.ev, Ax.evs, Ax.evo, Ax.evp, Ax.look, Ax.putE, Ax.keepE, Ax.argsE, Ax.extr, Ax.binV, Ax.intBin, Ax.unV, Ax.addOff, Ax.sizeN, Ax.mkV, Ax.okV, reduceIte, Nat.reduceEqDiff, Nat.reduceAdd, Nat.reduceLeDiff, Nat.reduceLT, Nat.reduceSub, Nat.reduceMul, reduceCtorEq, Int.reduceEq, Int.reduceLT, Int.reduceLE, Int.reduceAdd, Int.reduceSub, Int.reduceNeg, Int.reduceToNat, undef, Value.cells, axL]; rfl) rfl ?_
      | (with_reducible first | refine end_reg (Ev.mono _ _) ?_ | refine end_dreg (Ev.mono _ _) ?_ | refine end_cond (Ev.mono _ _) ?_ | refine end_block (Ev.mono _ _) ?_ | refine end_loop (Ev.mono _ _) ?_))
  exact hq

theorem ngive_spec (n t : Int) {Q : Value → AS → Prop} (hq : Q (.tuple #[.int .i64 0, .bool false, .int .i64 3]) S) : Ev G X 10 [.pointer none, .int .i64 n, .int .i64 t] S Q := by
  refine Ev.fnR (rs := R10) (c := A10) rfl ?_; unfold A10
  repeat' (first
      | (with_reducible first | refine go_assoc ?_ (Ev.mono _ _) | refine go_skip ?_ | refine go_fin ?_ | refine go_ret ?_ | refine go_ret0 ?_ | refine go_exit ?_ | refine go_exit0 ?_ | refine go_block ?_ | refine n_then ?_ | refine x_then ?_ | refine r_then ?_ | refine n_block ?_ | refine r_block ?_ | refine x_block ?_ | refine x_block_ne ?_ (by decide))
      | (with_reducible refine is_k ?_; refine go_k _ (by simp only [Ax.runK, Ax.runOps, Ax.run1, Ax.wantA, Ax.step, Ax.ev, Ax.evs, Ax.evo, Ax.evp, Ax.look, Ax.putE, Ax.keepE, Ax.argsE, Ax.extr, Ax.binV, Ax.intBin, Ax.unV, Ax.addOff, Ax.sizeN, Ax.mkV, Ax.okV, reduceIte, Nat.reduceEqDiff, Nat.reduceAdd, Nat.reduceLeDiff, Nat.reduceLT, Nat.reduceSub, Nat.reduceMul, reduceCtorEq, Int.reduceEq, Int.reduceLT, Int.reduceLE, Int.reduceAdd, Int.reduceSub, Int.reduceNeg, Int.reduceToNat, undef, Value.cells, axL]; rfl) rfl ?_)
      | (with_reducible refine cond_t ?_ ?_; · simp only [Ax.ev, Ax.look, reduceIte, Nat.reduceEqDiff])
      | (with_reducible refine cond_f ?_ ?_; · simp only [Ax.ev, Ax.look, reduceIte, Nat.reduceEqDiff])
      | (with_reducible refine is_rp ?_; first | refine r_postR rfl ?_ | refine r_postR (by simp only [Ax.result, Ax.resVs, Ax.resV, R10, Ax.look, sizeN, mkV, Nat.reduceEqDiff, reduceIte, axL]; rfl) ?_)
      | (with_reducible refine is_np ?_; first | refine n_postR rfl ?_ | refine n_postR (by simp only [Ax.result, Ax.resVs, Ax.resV, R10, Ax.look, sizeN, mkV, Nat.reduceEqDiff, reduceIte, axL]; rfl) ?_)
      | (first | with_reducible refine is_wd ?_ | with_reducible refine dk_wd ?_); refine go_dt _ (by simp only [Ax.runDK, Ax.runDT, Ax.runDops, Ax.run1d, Ax.recs, Ax.okPair, Ax.idsE, Ax.idsV, AOp.mems, AOp.isWrite, DRec.none, axD, Ax.runK, Ax.runOps, Ax.run1, Ax.wantA, Ax.step, Ax.ev, Ax.evs, Ax.evo, Ax.evp, Ax.look, Ax.putE, Ax.keepE, Ax.argsE, Ax.extr, Ax.binV, Ax.intBin, Ax.unV, Ax.addOff, Ax.sizeN, Ax.mkV, Ax.okV, reduceIte, Nat.reduceEqDiff, Nat.reduceAdd, Nat.reduceLeDiff, Nat.reduceLT, Nat.reduceSub, Nat.reduceMul, reduceCtorEq, Int.reduceEq, Int.reduceLT, Int.reduceLE, Int.reduceAdd, Int.reduceSub, Int.reduceNeg, Int.reduceToNat, undef, Value.cells, axL]; rfl) rfl ?_
      | (with_reducible first | refine end_reg (Ev.mono _ _) ?_ | refine end_dreg (Ev.mono _ _) ?_ | refine end_cond (Ev.mono _ _) ?_ | refine end_block (Ev.mono _ _) ?_ | refine end_loop (Ev.mono _ _) ?_))
  repeat' (with_reducible first | refine go_assoc ?_ (Ev.mono _ _) | refine go_skip ?_ | refine go_block ?_ | refine end_reg (Ev.mono _ _) ?_)
  refine go_callC _ (by simp only [Ax.runC, AOp.isCall, Ax.runK, Ax.runOps, Ax.run1, Ax.wantA, Ax.step, Ax.ev, Ax.evs, Ax.evo, Ax.evp, Ax.look, Ax.putE, Ax.keepE, Ax.argsE, Ax.extr, Ax.binV, Ax.intBin, Ax.unV, Ax.addOff, Ax.sizeN, Ax.mkV, Ax.okV, reduceIte, Nat.reduceEqDiff, Nat.reduceAdd, Nat.reduceLeDiff, Nat.reduceLT, Nat.reduceSub, Nat.reduceMul, reduceCtorEq, Int.reduceEq, Int.reduceLT, Int.reduceLE, Int.reduceAdd, Int.reduceSub, Int.reduceNeg, Int.reduceToNat, undef, Value.cells, axL]; rfl) rfl rfl (by simp only [Ax.wantA, Ax.look, reduceIte, Nat.reduceEqDiff, bq_t, bq_f, Bool.not_true, Bool.not_false]; try rfl) rfl (by simp only [Ax.runK, Ax.runOps, Ax.run1, Ax.wantA, Ax.step, Ax.ev, Ax.evs, Ax.evo, Ax.evp, Ax.look, Ax.putE, Ax.keepE, Ax.argsE, Ax.extr, Ax.binV, Ax.intBin, Ax.unV, Ax.addOff, Ax.sizeN, Ax.mkV, Ax.okV, reduceIte, Nat.reduceEqDiff, Nat.reduceAdd, Nat.reduceLeDiff, Nat.reduceLT, Nat.reduceSub, Nat.reduceMul, reduceCtorEq, Int.reduceEq, Int.reduceLT, Int.reduceLE, Int.reduceAdd, Int.reduceSub, Int.reduceNeg, Int.reduceToNat, undef, Value.cells, axL]; try rfl) ?_
  refine nat_spec X ?_
  repeat' (first
      | (with_reducible first | refine go_assoc ?_ (Ev.mono _ _) | refine go_skip ?_ | refine go_fin ?_ | refine go_ret ?_ | refine go_ret0 ?_ | refine go_exit ?_ | refine go_exit0 ?_ | refine go_block ?_ | refine n_then ?_ | refine x_then ?_ | refine r_then ?_ | refine n_block ?_ | refine r_block ?_ | refine x_block ?_ | refine x_block_ne ?_ (by decide))
      | (with_reducible refine is_k ?_; refine go_k _ (by simp only [Ax.runK, Ax.runOps, Ax.run1, Ax.wantA, Ax.step, Ax.ev, Ax.evs, Ax.evo, Ax.evp, Ax.look, Ax.putE, Ax.keepE, Ax.argsE, Ax.extr, Ax.binV, Ax.intBin, Ax.unV, Ax.addOff, Ax.sizeN, Ax.mkV, Ax.okV, reduceIte, Nat.reduceEqDiff, Nat.reduceAdd, Nat.reduceLeDiff, Nat.reduceLT, Nat.reduceSub, Nat.reduceMul, reduceCtorEq, Int.reduceEq, Int.reduceLT, Int.reduceLE, Int.reduceAdd, Int.reduceSub, Int.reduceNeg, Int.reduceToNat, undef, Value.cells, axL]; rfl) rfl ?_)
      | (with_reducible refine cond_t ?_ ?_; · simp only [Ax.ev, Ax.look, reduceIte, Nat.reduceEqDiff])
      | (with_reducible refine cond_f ?_ ?_; · simp only [Ax.ev, Ax.look, reduceIte, Nat.reduceEqDiff])
      | (with_reducible refine is_rp ?_; first | refine r_postR rfl ?_ | refine r_postR (by simp only [Ax.result, Ax.resVs, Ax.resV, R10, Ax.look, sizeN, mkV, Nat.reduceEqDiff, reduceIte, axL]; rfl) ?_)
      | (with_reducible refine is_np ?_; first | refine n_postR rfl ?_ | refine n_postR (by simp only [Ax.result, Ax.resVs, Ax.resV, R10, Ax.look, sizeN, mkV, Nat.reduceEqDiff, reduceIte, axL]; rfl) ?_)
      | (first | with_reducible refine is_wd ?_ | with_reducible refine dk_wd ?_); refine go_dt _ (by simp only [Ax.runDK, Ax.runDT, Ax.runDops, Ax.run1d, Ax.recs, Ax.okPair, Ax.idsE, Ax.idsV, AOp.mems, AOp.isWrite, DRec.none, axD, Ax.runK, Ax.runOps, Ax.run1, Ax.wantA, Ax.step, Ax.ev, Ax.evs, Ax.evo, Ax.evp, Ax.look, Ax.putE, Ax.keepE, Ax.argsE, Ax.extr, Ax.binV, Ax.intBin, Ax.unV, Ax.addOff, Ax.sizeN, Ax.mkV, Ax.okV, reduceIte, Nat.reduceEqDiff, Nat.reduceAdd, Nat.reduceLeDiff, Nat.reduceLT, Nat.reduceSub, Nat.reduceMul, reduceCtorEq, Int.reduceEq, Int.reduceLT, Int.reduceLE, Int.reduceAdd, Int.reduceSub, Int.reduceNeg, Int.reduceToNat, undef, Value.cells, axL]; rfl) rfl ?_
      | (with_reducible first | refine end_reg (Ev.mono _ _) ?_ | refine end_dreg (Ev.mono _ _) ?_ | refine end_cond (Ev.mono _ _) ?_ | refine end_block (Ev.mono _ _) ?_ | refine end_loop (Ev.mono _ _) ?_))
  exact hq

theorem nowner_spec (n : Int) {Q : Value → AS → Prop} (hq : Q (.tuple #[.int .i64 0, .bool false]) S) : Ev G X 9 [.pointer none, .int .i64 n] S Q := by
  refine Ev.fnR (rs := R9) (c := A9) rfl ?_; unfold A9
  repeat' (first
      | (with_reducible first | refine go_assoc ?_ (Ev.mono _ _) | refine go_skip ?_ | refine go_fin ?_ | refine go_ret ?_ | refine go_ret0 ?_ | refine go_exit ?_ | refine go_exit0 ?_ | refine go_block ?_ | refine n_then ?_ | refine x_then ?_ | refine r_then ?_ | refine n_block ?_ | refine r_block ?_ | refine x_block ?_ | refine x_block_ne ?_ (by decide))
      | (with_reducible refine is_k ?_; refine go_k _ (by simp only [Ax.runK, Ax.runOps, Ax.run1, Ax.wantA, Ax.step, Ax.ev, Ax.evs, Ax.evo, Ax.evp, Ax.look, Ax.putE, Ax.keepE, Ax.argsE, Ax.extr, Ax.binV, Ax.intBin, Ax.unV, Ax.addOff, Ax.sizeN, Ax.mkV, Ax.okV, reduceIte, Nat.reduceEqDiff, Nat.reduceAdd, Nat.reduceLeDiff, Nat.reduceLT, Nat.reduceSub, Nat.reduceMul, reduceCtorEq, Int.reduceEq, Int.reduceLT, Int.reduceLE, Int.reduceAdd, Int.reduceSub, Int.reduceNeg, Int.reduceToNat, undef, Value.cells, axL]; rfl) rfl ?_)
      | (with_reducible refine cond_t ?_ ?_; · simp only [Ax.ev, Ax.look, reduceIte, Nat.reduceEqDiff])
      | (with_reducible refine cond_f ?_ ?_; · simp only [Ax.ev, Ax.look, reduceIte, Nat.reduceEqDiff])
      | (with_reducible refine is_rp ?_; first | refine r_postR rfl ?_ | refine r_postR (by simp only [Ax.result, Ax.resVs, Ax.resV, R9, Ax.look, sizeN, mkV, Nat.reduceEqDiff, reduceIte, axL]; rfl) ?_)
      | (with_reducible refine is_np ?_; first | refine n_postR rfl ?_ | refine n_postR (by simp only [Ax.result, Ax.resVs, Ax.resV, R9, Ax.look, sizeN, mkV, Nat.reduceEqDiff, reduceIte, axL]; rfl) ?_)
      | (first | with_reducible refine is_wd ?_ | with_reducible refine dk_wd ?_); refine go_dt _ (by simp only [Ax.runDK, Ax.runDT, Ax.runDops, Ax.run1d, Ax.recs, Ax.okPair, Ax.idsE, Ax.idsV, AOp.mems, AOp.isWrite, DRec.none, axD, Ax.runK, Ax.runOps, Ax.run1, Ax.wantA, Ax.step, Ax.ev, Ax.evs, Ax.evo, Ax.evp, Ax.look, Ax.putE, Ax.keepE, Ax.argsE, Ax.extr, Ax.binV, Ax.intBin, Ax.unV, Ax.addOff, Ax.sizeN, Ax.mkV, Ax.okV, reduceIte, Nat.reduceEqDiff, Nat.reduceAdd, Nat.reduceLeDiff, Nat.reduceLT, Nat.reduceSub, Nat.reduceMul, reduceCtorEq, Int.reduceEq, Int.reduceLT, Int.reduceLE, Int.reduceAdd, Int.reduceSub, Int.reduceNeg, Int.reduceToNat, undef, Value.cells, axL]; rfl) rfl ?_
      | (with_reducible first | refine end_reg (Ev.mono _ _) ?_ | refine end_dreg (Ev.mono _ _) ?_ | refine end_cond (Ev.mono _ _) ?_ | refine end_block (Ev.mono _ _) ?_ | refine end_loop (Ev.mono _ _) ?_))
  repeat' (with_reducible first | refine go_assoc ?_ (Ev.mono _ _) | refine go_skip ?_ | refine go_block ?_ | refine end_reg (Ev.mono _ _) ?_)
  refine go_callC _ (by simp only [Ax.runC, AOp.isCall, Ax.runK, Ax.runOps, Ax.run1, Ax.wantA, Ax.step, Ax.ev, Ax.evs, Ax.evo, Ax.evp, Ax.look, Ax.putE, Ax.keepE, Ax.argsE, Ax.extr, Ax.binV, Ax.intBin, Ax.unV, Ax.addOff, Ax.sizeN, Ax.mkV, Ax.okV, reduceIte, Nat.reduceEqDiff, Nat.reduceAdd, Nat.reduceLeDiff, Nat.reduceLT, Nat.reduceSub, Nat.reduceMul, reduceCtorEq, Int.reduceEq, Int.reduceLT, Int.reduceLE, Int.reduceAdd, Int.reduceSub, Int.reduceNeg, Int.reduceToNat, undef, Value.cells, axL]; rfl) rfl rfl (by simp only [Ax.wantA, Ax.look, reduceIte, Nat.reduceEqDiff, bq_t, bq_f, Bool.not_true, Bool.not_false]; try rfl) rfl (by simp only [Ax.runK, Ax.runOps, Ax.run1, Ax.wantA, Ax.step, Ax.ev, Ax.evs, Ax.evo, Ax.evp, Ax.look, Ax.putE, Ax.keepE, Ax.argsE, Ax.extr, Ax.binV, Ax.intBin, Ax.unV, Ax.addOff, Ax.sizeN, Ax.mkV, Ax.okV, reduceIte, Nat.reduceEqDiff, Nat.reduceAdd, Nat.reduceLeDiff, Nat.reduceLT, Nat.reduceSub, Nat.reduceMul, reduceCtorEq, Int.reduceEq, Int.reduceLT, Int.reduceLE, Int.reduceAdd, Int.reduceSub, Int.reduceNeg, Int.reduceToNat, undef, Value.cells, axL]; try rfl) ?_
  refine nat_spec X ?_
  repeat' (first
      | (with_reducible first | refine go_assoc ?_ (Ev.mono _ _) | refine go_skip ?_ | refine go_fin ?_ | refine go_ret ?_ | refine go_ret0 ?_ | refine go_exit ?_ | refine go_exit0 ?_ | refine go_block ?_ | refine n_then ?_ | refine x_then ?_ | refine r_then ?_ | refine n_block ?_ | refine r_block ?_ | refine x_block ?_ | refine x_block_ne ?_ (by decide))
      | (with_reducible refine is_k ?_; refine go_k _ (by simp only [Ax.runK, Ax.runOps, Ax.run1, Ax.wantA, Ax.step, Ax.ev, Ax.evs, Ax.evo, Ax.evp, Ax.look, Ax.putE, Ax.keepE, Ax.argsE, Ax.extr, Ax.binV, Ax.intBin, Ax.unV, Ax.addOff, Ax.sizeN, Ax.mkV, Ax.okV, reduceIte, Nat.reduceEqDiff, Nat.reduceAdd, Nat.reduceLeDiff, Nat.reduceLT, Nat.reduceSub, Nat.reduceMul, reduceCtorEq, Int.reduceEq, Int.reduceLT, Int.reduceLE, Int.reduceAdd, Int.reduceSub, Int.reduceNeg, Int.reduceToNat, undef, Value.cells, axL]; rfl) rfl ?_)
      | (with_reducible refine cond_t ?_ ?_; · simp only [Ax.ev, Ax.look, reduceIte, Nat.reduceEqDiff])
      | (with_reducible refine cond_f ?_ ?_; · simp only [Ax.ev, Ax.look, reduceIte, Nat.reduceEqDiff])
      | (with_reducible refine is_rp ?_; first | refine r_postR rfl ?_ | refine r_postR (by simp only [Ax.result, Ax.resVs, Ax.resV, R9, Ax.look, sizeN, mkV, Nat.reduceEqDiff, reduceIte, axL]; rfl) ?_)
      | (with_reducible refine is_np ?_; first | refine n_postR rfl ?_ | refine n_postR (by simp only [Ax.result, Ax.resVs, Ax.resV, R9, Ax.look, sizeN, mkV, Nat.reduceEqDiff, reduceIte, axL]; rfl) ?_)
      | (first | with_reducible refine is_wd ?_ | with_reducible refine dk_wd ?_); refine go_dt _ (by simp only [Ax.runDK, Ax.runDT, Ax.runDops, Ax.run1d, Ax.recs, Ax.okPair, Ax.idsE, Ax.idsV, AOp.mems, AOp.isWrite, DRec.none, axD, Ax.runK, Ax.runOps, Ax.run1, Ax.wantA, Ax.step, Ax.ev, Ax.evs, Ax.evo, Ax.evp, Ax.look, Ax.putE, Ax.keepE, Ax.argsE, Ax.extr, Ax.binV, Ax.intBin, Ax.unV, Ax.addOff, Ax.sizeN, Ax.mkV, Ax.okV, reduceIte, Nat.reduceEqDiff, Nat.reduceAdd, Nat.reduceLeDiff, Nat.reduceLT, Nat.reduceSub, Nat.reduceMul, reduceCtorEq, Int.reduceEq, Int.reduceLT, Int.reduceLE, Int.reduceAdd, Int.reduceSub, Int.reduceNeg, Int.reduceToNat, undef, Value.cells, axL]; rfl) rfl ?_
      | (with_reducible first | refine end_reg (Ev.mono _ _) ?_ | refine end_dreg (Ev.mono _ _) ?_ | refine end_cond (Ev.mono _ _) ?_ | refine end_block (Ev.mono _ _) ?_ | refine end_loop (Ev.mono _ _) ?_))
  exact hq

theorem nwaiting_spec (n : Int) {Q : Value → AS → Prop} (hq : Q (.slice none 0 0) S) : Ev G X 13 [.pointer none, .int .i64 n] S Q := by
  refine Ev.fnR (rs := R13) (c := A13) rfl ?_; unfold A13
  repeat' (first
      | (with_reducible first | refine go_assoc ?_ (Ev.mono _ _) | refine go_skip ?_ | refine go_fin ?_ | refine go_ret ?_ | refine go_ret0 ?_ | refine go_exit ?_ | refine go_exit0 ?_ | refine go_block ?_ | refine n_then ?_ | refine x_then ?_ | refine r_then ?_ | refine n_block ?_ | refine r_block ?_ | refine x_block ?_ | refine x_block_ne ?_ (by decide))
      | (with_reducible refine is_k ?_; refine go_k _ (by simp only [Ax.runK, Ax.runOps, Ax.run1, Ax.wantA, Ax.step, Ax.ev, Ax.evs, Ax.evo, Ax.evp, Ax.look, Ax.putE, Ax.keepE, Ax.argsE, Ax.extr, Ax.binV, Ax.intBin, Ax.unV, Ax.addOff, Ax.sizeN, Ax.mkV, Ax.okV, reduceIte, Nat.reduceEqDiff, Nat.reduceAdd, Nat.reduceLeDiff, Nat.reduceLT, Nat.reduceSub, Nat.reduceMul, reduceCtorEq, Int.reduceEq, Int.reduceLT, Int.reduceLE, Int.reduceAdd, Int.reduceSub, Int.reduceNeg, Int.reduceToNat, undef, Value.cells, axL]; rfl) rfl ?_)
      | (with_reducible refine cond_t ?_ ?_; · simp only [Ax.ev, Ax.look, reduceIte, Nat.reduceEqDiff])
      | (with_reducible refine cond_f ?_ ?_; · simp only [Ax.ev, Ax.look, reduceIte, Nat.reduceEqDiff])
      | (with_reducible refine is_rp ?_; first | refine r_postR rfl ?_ | refine r_postR (by simp only [Ax.result, Ax.resVs, Ax.resV, R13, Ax.look, sizeN, mkV, Nat.reduceEqDiff, reduceIte, axL]; rfl) ?_)
      | (with_reducible refine is_np ?_; first | refine n_postR rfl ?_ | refine n_postR (by simp only [Ax.result, Ax.resVs, Ax.resV, R13, Ax.look, sizeN, mkV, Nat.reduceEqDiff, reduceIte, axL]; rfl) ?_)
      | (first | with_reducible refine is_wd ?_ | with_reducible refine dk_wd ?_); refine go_dt _ (by simp only [Ax.runDK, Ax.runDT, Ax.runDops, Ax.run1d, Ax.recs, Ax.okPair, Ax.idsE, Ax.idsV, AOp.mems, AOp.isWrite, DRec.none, axD, Ax.runK, Ax.runOps, Ax.run1, Ax.wantA, Ax.step, Ax.ev, Ax.evs, Ax.evo, Ax.evp, Ax.look, Ax.putE, Ax.keepE, Ax.argsE, Ax.extr, Ax.binV, Ax.intBin, Ax.unV, Ax.addOff, Ax.sizeN, Ax.mkV, Ax.okV, reduceIte, Nat.reduceEqDiff, Nat.reduceAdd, Nat.reduceLeDiff, Nat.reduceLT, Nat.reduceSub, Nat.reduceMul, reduceCtorEq, Int.reduceEq, Int.reduceLT, Int.reduceLE, Int.reduceAdd, Int.reduceSub, Int.reduceNeg, Int.reduceToNat, undef, Value.cells, axL]; rfl) rfl ?_
      | (with_reducible first | refine end_reg (Ev.mono _ _) ?_ | refine end_dreg (Ev.mono _ _) ?_ | refine end_cond (Ev.mono _ _) ?_ | refine end_block (Ev.mono _ _) ?_ | refine end_loop (Ev.mono _ _) ?_))
  repeat' (with_reducible first | refine go_assoc ?_ (Ev.mono _ _) | refine go_skip ?_ | refine go_block ?_ | refine end_reg (Ev.mono _ _) ?_)
  refine go_callC _ (by simp only [Ax.runC, AOp.isCall, Ax.runK, Ax.runOps, Ax.run1, Ax.wantA, Ax.step, Ax.ev, Ax.evs, Ax.evo, Ax.evp, Ax.look, Ax.putE, Ax.keepE, Ax.argsE, Ax.extr, Ax.binV, Ax.intBin, Ax.unV, Ax.addOff, Ax.sizeN, Ax.mkV, Ax.okV, reduceIte, Nat.reduceEqDiff, Nat.reduceAdd, Nat.reduceLeDiff, Nat.reduceLT, Nat.reduceSub, Nat.reduceMul, reduceCtorEq, Int.reduceEq, Int.reduceLT, Int.reduceLE, Int.reduceAdd, Int.reduceSub, Int.reduceNeg, Int.reduceToNat, undef, Value.cells, axL]; rfl) rfl rfl (by simp only [Ax.wantA, Ax.look, reduceIte, Nat.reduceEqDiff, bq_t, bq_f, Bool.not_true, Bool.not_false]; try rfl) rfl (by simp only [Ax.runK, Ax.runOps, Ax.run1, Ax.wantA, Ax.step, Ax.ev, Ax.evs, Ax.evo, Ax.evp, Ax.look, Ax.putE, Ax.keepE, Ax.argsE, Ax.extr, Ax.binV, Ax.intBin, Ax.unV, Ax.addOff, Ax.sizeN, Ax.mkV, Ax.okV, reduceIte, Nat.reduceEqDiff, Nat.reduceAdd, Nat.reduceLeDiff, Nat.reduceLT, Nat.reduceSub, Nat.reduceMul, reduceCtorEq, Int.reduceEq, Int.reduceLT, Int.reduceLE, Int.reduceAdd, Int.reduceSub, Int.reduceNeg, Int.reduceToNat, undef, Value.cells, axL]; try rfl) ?_
  refine nat_spec X ?_
  repeat' (first
      | (with_reducible first | refine go_assoc ?_ (Ev.mono _ _) | refine go_skip ?_ | refine go_fin ?_ | refine go_ret ?_ | refine go_ret0 ?_ | refine go_exit ?_ | refine go_exit0 ?_ | refine go_block ?_ | refine n_then ?_ | refine x_then ?_ | refine r_then ?_ | refine n_block ?_ | refine r_block ?_ | refine x_block ?_ | refine x_block_ne ?_ (by decide))
      | (with_reducible refine is_k ?_; refine go_k _ (by simp only [Ax.runK, Ax.runOps, Ax.run1, Ax.wantA, Ax.step, Ax.ev, Ax.evs, Ax.evo, Ax.evp, Ax.look, Ax.putE, Ax.keepE, Ax.argsE, Ax.extr, Ax.binV, Ax.intBin, Ax.unV, Ax.addOff, Ax.sizeN, Ax.mkV, Ax.okV, reduceIte, Nat.reduceEqDiff, Nat.reduceAdd, Nat.reduceLeDiff, Nat.reduceLT, Nat.reduceSub, Nat.reduceMul, reduceCtorEq, Int.reduceEq, Int.reduceLT, Int.reduceLE, Int.reduceAdd, Int.reduceSub, Int.reduceNeg, Int.reduceToNat, undef, Value.cells, axL]; rfl) rfl ?_)
      | (with_reducible refine cond_t ?_ ?_; · simp only [Ax.ev, Ax.look, reduceIte, Nat.reduceEqDiff])
      | (with_reducible refine cond_f ?_ ?_; · simp only [Ax.ev, Ax.look, reduceIte, Nat.reduceEqDiff])
      | (with_reducible refine is_rp ?_; first | refine r_postR rfl ?_ | refine r_postR (by simp only [Ax.result, Ax.resVs, Ax.resV, R13, Ax.look, sizeN, mkV, Nat.reduceEqDiff, reduceIte, axL]; rfl) ?_)
      | (with_reducible refine is_np ?_; first | refine n_postR rfl ?_ | refine n_postR (by simp only [Ax.result, Ax.resVs, Ax.resV, R13, Ax.look, sizeN, mkV, Nat.reduceEqDiff, reduceIte, axL]; rfl) ?_)
      | (first | with_reducible refine is_wd ?_ | with_reducible refine dk_wd ?_); refine go_dt _ (by simp only [Ax.runDK, Ax.runDT, Ax.runDops, Ax.run1d, Ax.recs, Ax.okPair, Ax.idsE, Ax.idsV, AOp.mems, AOp.isWrite, DRec.none, axD, Ax.runK, Ax.runOps, Ax.run1, Ax.wantA, Ax.step, Ax.ev, Ax.evs, Ax.evo, Ax.evp, Ax.look, Ax.putE, Ax.keepE, Ax.argsE, Ax.extr, Ax.binV, Ax.intBin, Ax.unV, Ax.addOff, Ax.sizeN, Ax.mkV, Ax.okV, reduceIte, Nat.reduceEqDiff, Nat.reduceAdd, Nat.reduceLeDiff, Nat.reduceLT, Nat.reduceSub, Nat.reduceMul, reduceCtorEq, Int.reduceEq, Int.reduceLT, Int.reduceLE, Int.reduceAdd, Int.reduceSub, Int.reduceNeg, Int.reduceToNat, undef, Value.cells, axL]; rfl) rfl ?_
      | (with_reducible first | refine end_reg (Ev.mono _ _) ?_ | refine end_dreg (Ev.mono _ _) ?_ | refine end_cond (Ev.mono _ _) ?_ | refine end_block (Ev.mono _ _) ?_ | refine end_loop (Ev.mono _ _) ?_))
  exact hq

theorem nowned_spec (t : Int) {Q : Value → AS → Prop} (hq : Q (.slice none 0 0) S) : Ev G X 17 [.pointer none, .int .i64 t] S Q := by
  refine Ev.fnR (rs := R17) (c := A17) rfl ?_; unfold A17
  repeat' (first
      | (with_reducible first | refine go_assoc ?_ (Ev.mono _ _) | refine go_skip ?_ | refine go_fin ?_ | refine go_ret ?_ | refine go_ret0 ?_ | refine go_exit ?_ | refine go_exit0 ?_ | refine go_block ?_ | refine n_then ?_ | refine x_then ?_ | refine r_then ?_ | refine n_block ?_ | refine r_block ?_ | refine x_block ?_ | refine x_block_ne ?_ (by decide))
      | (with_reducible refine is_k ?_; refine go_k _ (by simp only [Ax.runK, Ax.runOps, Ax.run1, Ax.wantA, Ax.step, Ax.ev, Ax.evs, Ax.evo, Ax.evp, Ax.look, Ax.putE, Ax.keepE, Ax.argsE, Ax.extr, Ax.binV, Ax.intBin, Ax.unV, Ax.addOff, Ax.sizeN, Ax.mkV, Ax.okV, reduceIte, Nat.reduceEqDiff, Nat.reduceAdd, Nat.reduceLeDiff, Nat.reduceLT, Nat.reduceSub, Nat.reduceMul, reduceCtorEq, Int.reduceEq, Int.reduceLT, Int.reduceLE, Int.reduceAdd, Int.reduceSub, Int.reduceNeg, Int.reduceToNat, undef, Value.cells, axL]; rfl) rfl ?_)
      | (with_reducible refine cond_t ?_ ?_; · simp only [Ax.ev, Ax.look, reduceIte, Nat.reduceEqDiff])
      | (with_reducible refine cond_f ?_ ?_; · simp only [Ax.ev, Ax.look, reduceIte, Nat.reduceEqDiff])
      | (with_reducible refine is_rp ?_; first | refine r_postR rfl ?_ | refine r_postR (by simp only [Ax.result, Ax.resVs, Ax.resV, R17, Ax.look, sizeN, mkV, Nat.reduceEqDiff, reduceIte, axL]; rfl) ?_)
      | (with_reducible refine is_np ?_; first | refine n_postR rfl ?_ | refine n_postR (by simp only [Ax.result, Ax.resVs, Ax.resV, R17, Ax.look, sizeN, mkV, Nat.reduceEqDiff, reduceIte, axL]; rfl) ?_)
      | (first | with_reducible refine is_wd ?_ | with_reducible refine dk_wd ?_); refine go_dt _ (by simp only [Ax.runDK, Ax.runDT, Ax.runDops, Ax.run1d, Ax.recs, Ax.okPair, Ax.idsE, Ax.idsV, AOp.mems, AOp.isWrite, DRec.none, axD, Ax.runK, Ax.runOps, Ax.run1, Ax.wantA, Ax.step, Ax.ev, Ax.evs, Ax.evo, Ax.evp, Ax.look, Ax.putE, Ax.keepE, Ax.argsE, Ax.extr, Ax.binV, Ax.intBin, Ax.unV, Ax.addOff, Ax.sizeN, Ax.mkV, Ax.okV, reduceIte, Nat.reduceEqDiff, Nat.reduceAdd, Nat.reduceLeDiff, Nat.reduceLT, Nat.reduceSub, Nat.reduceMul, reduceCtorEq, Int.reduceEq, Int.reduceLT, Int.reduceLE, Int.reduceAdd, Int.reduceSub, Int.reduceNeg, Int.reduceToNat, undef, Value.cells, axL]; rfl) rfl ?_
      | (with_reducible first | refine end_reg (Ev.mono _ _) ?_ | refine end_dreg (Ev.mono _ _) ?_ | refine end_cond (Ev.mono _ _) ?_ | refine end_block (Ev.mono _ _) ?_ | refine end_loop (Ev.mono _ _) ?_))
  repeat' (with_reducible first | refine go_assoc ?_ (Ev.mono _ _) | refine go_skip ?_ | refine go_block ?_ | refine end_reg (Ev.mono _ _) ?_)
  refine go_callC _ (by simp only [Ax.runC, AOp.isCall, Ax.runK, Ax.runOps, Ax.run1, Ax.wantA, Ax.step, Ax.ev, Ax.evs, Ax.evo, Ax.evp, Ax.look, Ax.putE, Ax.keepE, Ax.argsE, Ax.extr, Ax.binV, Ax.intBin, Ax.unV, Ax.addOff, Ax.sizeN, Ax.mkV, Ax.okV, reduceIte, Nat.reduceEqDiff, Nat.reduceAdd, Nat.reduceLeDiff, Nat.reduceLT, Nat.reduceSub, Nat.reduceMul, reduceCtorEq, Int.reduceEq, Int.reduceLT, Int.reduceLE, Int.reduceAdd, Int.reduceSub, Int.reduceNeg, Int.reduceToNat, undef, Value.cells, axL]; rfl) rfl rfl (by simp only [Ax.wantA, Ax.look, reduceIte, Nat.reduceEqDiff, bq_t, bq_f, Bool.not_true, Bool.not_false]; try rfl) rfl (by simp only [Ax.runK, Ax.runOps, Ax.run1, Ax.wantA, Ax.step, Ax.ev, Ax.evs, Ax.evo, Ax.evp, Ax.look, Ax.putE, Ax.keepE, Ax.argsE, Ax.extr, Ax.binV, Ax.intBin, Ax.unV, Ax.addOff, Ax.sizeN, Ax.mkV, Ax.okV, reduceIte, Nat.reduceEqDiff, Nat.reduceAdd, Nat.reduceLeDiff, Nat.reduceLT, Nat.reduceSub, Nat.reduceMul, reduceCtorEq, Int.reduceEq, Int.reduceLT, Int.reduceLE, Int.reduceAdd, Int.reduceSub, Int.reduceNeg, Int.reduceToNat, undef, Value.cells, axL]; try rfl) ?_
  refine nlen_spec X ?_
  repeat' (first
      | (with_reducible first | refine go_assoc ?_ (Ev.mono _ _) | refine go_skip ?_ | refine go_fin ?_ | refine go_ret ?_ | refine go_ret0 ?_ | refine go_exit ?_ | refine go_exit0 ?_ | refine go_block ?_ | refine n_then ?_ | refine x_then ?_ | refine r_then ?_ | refine n_block ?_ | refine r_block ?_ | refine x_block ?_ | refine x_block_ne ?_ (by decide))
      | (with_reducible refine is_k ?_; refine go_k _ (by simp only [Ax.runK, Ax.runOps, Ax.run1, Ax.wantA, Ax.step, Ax.ev, Ax.evs, Ax.evo, Ax.evp, Ax.look, Ax.putE, Ax.keepE, Ax.argsE, Ax.extr, Ax.binV, Ax.intBin, Ax.unV, Ax.addOff, Ax.sizeN, Ax.mkV, Ax.okV, reduceIte, Nat.reduceEqDiff, Nat.reduceAdd, Nat.reduceLeDiff, Nat.reduceLT, Nat.reduceSub, Nat.reduceMul, reduceCtorEq, Int.reduceEq, Int.reduceLT, Int.reduceLE, Int.reduceAdd, Int.reduceSub, Int.reduceNeg, Int.reduceToNat, undef, Value.cells, axL]; rfl) rfl ?_)
      | (with_reducible refine cond_t ?_ ?_; · simp only [Ax.ev, Ax.look, reduceIte, Nat.reduceEqDiff])
      | (with_reducible refine cond_f ?_ ?_; · simp only [Ax.ev, Ax.look, reduceIte, Nat.reduceEqDiff])
      | (with_reducible refine is_rp ?_; first | refine r_postR rfl ?_ | refine r_postR (by simp only [Ax.result, Ax.resVs, Ax.resV, R17, Ax.look, sizeN, mkV, Nat.reduceEqDiff, reduceIte, axL]; rfl) ?_)
      | (with_reducible refine is_np ?_; first | refine n_postR rfl ?_ | refine n_postR (by simp only [Ax.result, Ax.resVs, Ax.resV, R17, Ax.look, sizeN, mkV, Nat.reduceEqDiff, reduceIte, axL]; rfl) ?_)
      | (first | with_reducible refine is_wd ?_ | with_reducible refine dk_wd ?_); refine go_dt _ (by simp only [Ax.runDK, Ax.runDT, Ax.runDops, Ax.run1d, Ax.recs, Ax.okPair, Ax.idsE, Ax.idsV, AOp.mems, AOp.isWrite, DRec.none, axD, Ax.runK, Ax.runOps, Ax.run1, Ax.wantA, Ax.step, Ax.ev, Ax.evs, Ax.evo, Ax.evp, Ax.look, Ax.putE, Ax.keepE, Ax.argsE, Ax.extr, Ax.binV, Ax.intBin, Ax.unV, Ax.addOff, Ax.sizeN, Ax.mkV, Ax.okV, reduceIte, Nat.reduceEqDiff, Nat.reduceAdd, Nat.reduceLeDiff, Nat.reduceLT, Nat.reduceSub, Nat.reduceMul, reduceCtorEq, Int.reduceEq, Int.reduceLT, Int.reduceLE, Int.reduceAdd, Int.reduceSub, Int.reduceNeg, Int.reduceToNat, undef, Value.cells, axL]; rfl) rfl ?_
      | (with_reducible first | refine end_reg (Ev.mono _ _) ?_ | refine end_dreg (Ev.mono _ _) ?_ | refine end_cond (Ev.mono _ _) ?_ | refine end_block (Ev.mono _ _) ?_ | refine end_loop (Ev.mono _ _) ?_))
  refine unroll ?_
  repeat' (first
      | (with_reducible first | refine go_assoc ?_ (Ev.mono _ _) | refine go_skip ?_ | refine go_fin ?_ | refine go_ret ?_ | refine go_ret0 ?_ | refine go_exit ?_ | refine go_exit0 ?_ | refine go_block ?_ | refine n_then ?_ | refine x_then ?_ | refine r_then ?_ | refine n_block ?_ | refine r_block ?_ | refine x_block ?_ | refine x_block_ne ?_ (by decide))
      | (with_reducible refine is_k ?_; refine go_k _ (by simp only [Ax.runK, Ax.runOps, Ax.run1, Ax.wantA, Ax.step, Ax.ev, Ax.evs, Ax.evo, Ax.evp, Ax.look, Ax.putE, Ax.keepE, Ax.argsE, Ax.extr, Ax.binV, Ax.intBin, Ax.unV, Ax.addOff, Ax.sizeN, Ax.mkV, Ax.okV, reduceIte, Nat.reduceEqDiff, Nat.reduceAdd, Nat.reduceLeDiff, Nat.reduceLT, Nat.reduceSub, Nat.reduceMul, reduceCtorEq, Int.reduceEq, Int.reduceLT, Int.reduceLE, Int.reduceAdd, Int.reduceSub, Int.reduceNeg, Int.reduceToNat, undef, Value.cells, axL]; rfl) rfl ?_)
      | (with_reducible refine cond_t ?_ ?_; · simp only [Ax.ev, Ax.look, reduceIte, Nat.reduceEqDiff])
      | (with_reducible refine cond_f ?_ ?_; · simp only [Ax.ev, Ax.look, reduceIte, Nat.reduceEqDiff])
      | (with_reducible refine is_rp ?_; first | refine r_postR rfl ?_ | refine r_postR (by simp only [Ax.result, Ax.resVs, Ax.resV, R17, Ax.look, sizeN, mkV, Nat.reduceEqDiff, reduceIte, axL]; rfl) ?_)
      | (with_reducible refine is_np ?_; first | refine n_postR rfl ?_ | refine n_postR (by simp only [Ax.result, Ax.resVs, Ax.resV, R17, Ax.look, sizeN, mkV, Nat.reduceEqDiff, reduceIte, axL]; rfl) ?_)
      | (first | with_reducible refine is_wd ?_ | with_reducible refine dk_wd ?_); refine go_dt _ (by simp only [Ax.runDK, Ax.runDT, Ax.runDops, Ax.run1d, Ax.recs, Ax.okPair, Ax.idsE, Ax.idsV, AOp.mems, AOp.isWrite, DRec.none, axD, Ax.runK, Ax.runOps, Ax.run1, Ax.wantA, Ax.step, Ax.ev, Ax.evs, Ax.evo, Ax.evp, Ax.look, Ax.putE, Ax.keepE, Ax.argsE, Ax.extr, Ax.binV, Ax.intBin, Ax.unV, Ax.addOff, Ax.sizeN, Ax.mkV, Ax.okV, reduceIte, Nat.reduceEqDiff, Nat.reduceAdd, Nat.reduceLeDiff, Nat.reduceLT, Nat.reduceSub, Nat.reduceMul, reduceCtorEq, Int.reduceEq, Int.reduceLT, Int.reduceLE, Int.reduceAdd, Int.reduceSub, Int.reduceNeg, Int.reduceToNat, undef, Value.cells, axL]; rfl) rfl ?_
      | (with_reducible first | refine end_reg (Ev.mono _ _) ?_ | refine end_dreg (Ev.mono _ _) ?_ | refine end_cond (Ev.mono _ _) ?_ | refine end_block (Ev.mono _ _) ?_ | refine end_loop (Ev.mono _ _) ?_))
  exact hq
end

theorem cohortOwner_law {R : Nat → Option (List Value)} (t o s : Int) : Law G XL 6 [.int .i64 t, .int .i64 o, .int .i64 s] R := by
  intro F S H
  refine Ev.fnR (rs := R6) (c := A6) rfl ?_; unfold A6
  by_cases hbad : t < 0 ∨ o < 0 ∨ s < 0 ∨ t = o
  · rcases (show t < 0 ∨ (¬ t < 0 ∧ o < 0) ∨ (¬ t < 0 ∧ ¬ o < 0 ∧ s < 0) ∨ (¬ t < 0 ∧ ¬ o < 0 ∧ ¬ s < 0 ∧ t = o) from by omega) with h | ⟨h1, h⟩ | ⟨h1, h2, h⟩ | ⟨h1, h2, h3, h⟩
    · repeat' (first
          | (with_reducible first | refine go_assoc ?_ (Ev.mono _ _) | refine go_skip ?_ | refine go_fin ?_ | refine go_ret ?_ | refine go_ret0 ?_ | refine go_exit ?_ | refine go_exit0 ?_ | refine go_block ?_ | refine n_then ?_ | refine x_then ?_ | refine r_then ?_ | refine n_block ?_ | refine r_block ?_ | refine x_block ?_ | refine x_block_ne ?_ (by decide))
          | (with_reducible refine is_k ?_; refine go_k _ (by simp only [Ax.runK, Ax.runOps, Ax.run1, Ax.wantA, Ax.step, Ax.ev, Ax.evs, Ax.evo, Ax.evp, Ax.look, Ax.putE, Ax.keepE, Ax.argsE, Ax.extr, Ax.binV, Ax.intBin, Ax.unV, Ax.addOff, Ax.sizeN, Ax.mkV, Ax.okV, reduceIte, Nat.reduceEqDiff, Nat.reduceAdd, Nat.reduceLeDiff, Nat.reduceLT, Nat.reduceSub, Nat.reduceMul, reduceCtorEq, Int.reduceEq, Int.reduceLT, Int.reduceLE, Int.reduceAdd, Int.reduceSub, Int.reduceNeg, Int.reduceToNat, undef, Value.cells, axL, h]; rfl) rfl ?_)
          | (with_reducible refine cond_t ?_ ?_; · simp only [Ax.ev, Ax.look, reduceIte, Nat.reduceEqDiff])
          | (with_reducible refine cond_f ?_ ?_; · simp only [Ax.ev, Ax.look, reduceIte, Nat.reduceEqDiff])
          | (with_reducible refine is_rp ?_; first | refine r_postR rfl ?_ | refine r_postR (by simp only [Ax.result, Ax.resVs, Ax.resV, R6, Ax.look, sizeN, mkV, Nat.reduceEqDiff, reduceIte, axL, h]; rfl) ?_)
          | (with_reducible refine is_np ?_; first | refine n_postR rfl ?_ | refine n_postR (by simp only [Ax.result, Ax.resVs, Ax.resV, R6, Ax.look, sizeN, mkV, Nat.reduceEqDiff, reduceIte, axL, h]; rfl) ?_)
          | (first | with_reducible refine is_wd ?_ | with_reducible refine dk_wd ?_); refine go_dt _ (by simp only [Ax.runDK, Ax.runDT, Ax.runDops, Ax.run1d, Ax.recs, Ax.okPair, Ax.idsE, Ax.idsV, AOp.mems, AOp.isWrite, DRec.none, axD, Ax.runK, Ax.runOps, Ax.run1, Ax.wantA, Ax.step, Ax.ev, Ax.evs, Ax.evo, Ax.evp, Ax.look, Ax.putE, Ax.keepE, Ax.argsE, Ax.extr, Ax.binV, Ax.intBin, Ax.unV, Ax.addOff, Ax.sizeN, Ax.mkV, Ax.okV, reduceIte, Nat.reduceEqDiff, Nat.reduceAdd, Nat.reduceLeDiff, Nat.reduceLT, Nat.reduceSub, Nat.reduceMul, reduceCtorEq, Int.reduceEq, Int.reduceLT, Int.reduceLE, Int.reduceAdd, Int.reduceSub, Int.reduceNeg, Int.reduceToNat, undef, Value.cells, axL, h]; rfl) rfl ?_
          | (with_reducible first | refine end_reg (Ev.mono _ _) ?_ | refine end_dreg (Ev.mono _ _) ?_ | refine end_cond (Ev.mono _ _) ?_ | refine end_block (Ev.mono _ _) ?_ | refine end_loop (Ev.mono _ _) ?_))
      repeat' (with_reducible first | refine go_assoc ?_ (Ev.mono _ _) | refine go_skip ?_ | refine go_block ?_ | refine end_reg (Ev.mono _ _) ?_)
      refine go_callC _ (by simp only [Ax.runC, AOp.isCall, Ax.runK, Ax.runOps, Ax.run1, Ax.wantA, Ax.step, Ax.ev, Ax.evs, Ax.evo, Ax.evp, Ax.look, Ax.putE, Ax.keepE, Ax.argsE, Ax.extr, Ax.binV, Ax.intBin, Ax.unV, Ax.addOff, Ax.sizeN, Ax.mkV, Ax.okV, reduceIte, Nat.reduceEqDiff, Nat.reduceAdd, Nat.reduceLeDiff, Nat.reduceLT, Nat.reduceSub, Nat.reduceMul, reduceCtorEq, Int.reduceEq, Int.reduceLT, Int.reduceLE, Int.reduceAdd, Int.reduceSub, Int.reduceNeg, Int.reduceToNat, undef, Value.cells, axL]; rfl) rfl rfl (by simp only [Ax.wantA, Ax.look, reduceIte, Nat.reduceEqDiff, bq_t, bq_f, Bool.not_true, Bool.not_false]; try rfl) rfl (by simp only [Ax.runK, Ax.runOps, Ax.run1, Ax.wantA, Ax.step, Ax.ev, Ax.evs, Ax.evo, Ax.evp, Ax.look, Ax.putE, Ax.keepE, Ax.argsE, Ax.extr, Ax.binV, Ax.intBin, Ax.unV, Ax.addOff, Ax.sizeN, Ax.mkV, Ax.okV, reduceIte, Nat.reduceEqDiff, Nat.reduceAdd, Nat.reduceLeDiff, Nat.reduceLT, Nat.reduceSub, Nat.reduceMul, reduceCtorEq, Int.reduceEq, Int.reduceLT, Int.reduceLE, Int.reduceAdd, Int.reduceSub, Int.reduceNeg, Int.reduceToNat, undef, Value.cells, axL]; try rfl) ?_
      refine Ev.known G_live X_live ?_
      repeat' (first
          | (with_reducible first | refine go_assoc ?_ (Ev.mono _ _) | refine go_skip ?_ | refine go_fin ?_ | refine go_ret ?_ | refine go_ret0 ?_ | refine go_exit ?_ | refine go_exit0 ?_ | refine go_block ?_ | refine n_then ?_ | refine x_then ?_ | refine r_then ?_ | refine n_block ?_ | refine r_block ?_ | refine x_block ?_ | refine x_block_ne ?_ (by decide))
          | (with_reducible refine is_k ?_; refine go_k _ (by simp only [Ax.runK, Ax.runOps, Ax.run1, Ax.wantA, Ax.step, Ax.ev, Ax.evs, Ax.evo, Ax.evp, Ax.look, Ax.putE, Ax.keepE, Ax.argsE, Ax.extr, Ax.binV, Ax.intBin, Ax.unV, Ax.addOff, Ax.sizeN, Ax.mkV, Ax.okV, reduceIte, Nat.reduceEqDiff, Nat.reduceAdd, Nat.reduceLeDiff, Nat.reduceLT, Nat.reduceSub, Nat.reduceMul, reduceCtorEq, Int.reduceEq, Int.reduceLT, Int.reduceLE, Int.reduceAdd, Int.reduceSub, Int.reduceNeg, Int.reduceToNat, undef, Value.cells, axL]; rfl) rfl ?_)
          | (with_reducible refine cond_t ?_ ?_; · simp only [Ax.ev, Ax.look, reduceIte, Nat.reduceEqDiff])
          | (with_reducible refine cond_f ?_ ?_; · simp only [Ax.ev, Ax.look, reduceIte, Nat.reduceEqDiff])
          | (with_reducible refine is_rp ?_; first | refine r_postR rfl ?_ | refine r_postR (by simp only [Ax.result, Ax.resVs, Ax.resV, R6, Ax.look, sizeN, mkV, Nat.reduceEqDiff, reduceIte, axL]; rfl) ?_)
          | (with_reducible refine is_np ?_; first | refine n_postR rfl ?_ | refine n_postR (by simp only [Ax.result, Ax.resVs, Ax.resV, R6, Ax.look, sizeN, mkV, Nat.reduceEqDiff, reduceIte, axL]; rfl) ?_)
          | (first | with_reducible refine is_wd ?_ | with_reducible refine dk_wd ?_); refine go_dt _ (by simp only [Ax.runDK, Ax.runDT, Ax.runDops, Ax.run1d, Ax.recs, Ax.okPair, Ax.idsE, Ax.idsV, AOp.mems, AOp.isWrite, DRec.none, axD, Ax.runK, Ax.runOps, Ax.run1, Ax.wantA, Ax.step, Ax.ev, Ax.evs, Ax.evo, Ax.evp, Ax.look, Ax.putE, Ax.keepE, Ax.argsE, Ax.extr, Ax.binV, Ax.intBin, Ax.unV, Ax.addOff, Ax.sizeN, Ax.mkV, Ax.okV, reduceIte, Nat.reduceEqDiff, Nat.reduceAdd, Nat.reduceLeDiff, Nat.reduceLT, Nat.reduceSub, Nat.reduceMul, reduceCtorEq, Int.reduceEq, Int.reduceLT, Int.reduceLE, Int.reduceAdd, Int.reduceSub, Int.reduceNeg, Int.reduceToNat, undef, Value.cells, axL]; rfl) rfl ?_
          | (with_reducible first | refine end_reg (Ev.mono _ _) ?_ | refine end_dreg (Ev.mono _ _) ?_ | refine end_cond (Ev.mono _ _) ?_ | refine end_block (Ev.mono _ _) ?_ | refine end_loop (Ev.mono _ _) ?_))
      rfl
    · repeat' (first
          | (with_reducible first | refine go_assoc ?_ (Ev.mono _ _) | refine go_skip ?_ | refine go_fin ?_ | refine go_ret ?_ | refine go_ret0 ?_ | refine go_exit ?_ | refine go_exit0 ?_ | refine go_block ?_ | refine n_then ?_ | refine x_then ?_ | refine r_then ?_ | refine n_block ?_ | refine r_block ?_ | refine x_block ?_ | refine x_block_ne ?_ (by decide))
          | (with_reducible refine is_k ?_; refine go_k _ (by simp only [Ax.runK, Ax.runOps, Ax.run1, Ax.wantA, Ax.step, Ax.ev, Ax.evs, Ax.evo, Ax.evp, Ax.look, Ax.putE, Ax.keepE, Ax.argsE, Ax.extr, Ax.binV, Ax.intBin, Ax.unV, Ax.addOff, Ax.sizeN, Ax.mkV, Ax.okV, reduceIte, Nat.reduceEqDiff, Nat.reduceAdd, Nat.reduceLeDiff, Nat.reduceLT, Nat.reduceSub, Nat.reduceMul, reduceCtorEq, Int.reduceEq, Int.reduceLT, Int.reduceLE, Int.reduceAdd, Int.reduceSub, Int.reduceNeg, Int.reduceToNat, undef, Value.cells, axL, h, h1]; rfl) rfl ?_)
          | (with_reducible refine cond_t ?_ ?_; · simp only [Ax.ev, Ax.look, reduceIte, Nat.reduceEqDiff])
          | (with_reducible refine cond_f ?_ ?_; · simp only [Ax.ev, Ax.look, reduceIte, Nat.reduceEqDiff])
          | (with_reducible refine is_rp ?_; first | refine r_postR rfl ?_ | refine r_postR (by simp only [Ax.result, Ax.resVs, Ax.resV, R6, Ax.look, sizeN, mkV, Nat.reduceEqDiff, reduceIte, axL, h, h1]; rfl) ?_)
          | (with_reducible refine is_np ?_; first | refine n_postR rfl ?_ | refine n_postR (by simp only [Ax.result, Ax.resVs, Ax.resV, R6, Ax.look, sizeN, mkV, Nat.reduceEqDiff, reduceIte, axL, h, h1]; rfl) ?_)
          | (first | with_reducible refine is_wd ?_ | with_reducible refine dk_wd ?_); refine go_dt _ (by simp only [Ax.runDK, Ax.runDT, Ax.runDops, Ax.run1d, Ax.recs, Ax.okPair, Ax.idsE, Ax.idsV, AOp.mems, AOp.isWrite, DRec.none, axD, Ax.runK, Ax.runOps, Ax.run1, Ax.wantA, Ax.step, Ax.ev, Ax.evs, Ax.evo, Ax.evp, Ax.look, Ax.putE, Ax.keepE, Ax.argsE, Ax.extr, Ax.binV, Ax.intBin, Ax.unV, Ax.addOff, Ax.sizeN, Ax.mkV, Ax.okV, reduceIte, Nat.reduceEqDiff, Nat.reduceAdd, Nat.reduceLeDiff, Nat.reduceLT, Nat.reduceSub, Nat.reduceMul, reduceCtorEq, Int.reduceEq, Int.reduceLT, Int.reduceLE, Int.reduceAdd, Int.reduceSub, Int.reduceNeg, Int.reduceToNat, undef, Value.cells, axL, h, h1]; rfl) rfl ?_
          | (with_reducible first | refine end_reg (Ev.mono _ _) ?_ | refine end_dreg (Ev.mono _ _) ?_ | refine end_cond (Ev.mono _ _) ?_ | refine end_block (Ev.mono _ _) ?_ | refine end_loop (Ev.mono _ _) ?_))
      repeat' (with_reducible first | refine go_assoc ?_ (Ev.mono _ _) | refine go_skip ?_ | refine go_block ?_ | refine end_reg (Ev.mono _ _) ?_)
      refine go_callC _ (by simp only [Ax.runC, AOp.isCall, Ax.runK, Ax.runOps, Ax.run1, Ax.wantA, Ax.step, Ax.ev, Ax.evs, Ax.evo, Ax.evp, Ax.look, Ax.putE, Ax.keepE, Ax.argsE, Ax.extr, Ax.binV, Ax.intBin, Ax.unV, Ax.addOff, Ax.sizeN, Ax.mkV, Ax.okV, reduceIte, Nat.reduceEqDiff, Nat.reduceAdd, Nat.reduceLeDiff, Nat.reduceLT, Nat.reduceSub, Nat.reduceMul, reduceCtorEq, Int.reduceEq, Int.reduceLT, Int.reduceLE, Int.reduceAdd, Int.reduceSub, Int.reduceNeg, Int.reduceToNat, undef, Value.cells, axL]; rfl) rfl rfl (by simp only [Ax.wantA, Ax.look, reduceIte, Nat.reduceEqDiff, bq_t, bq_f, Bool.not_true, Bool.not_false]; try rfl) rfl (by simp only [Ax.runK, Ax.runOps, Ax.run1, Ax.wantA, Ax.step, Ax.ev, Ax.evs, Ax.evo, Ax.evp, Ax.look, Ax.putE, Ax.keepE, Ax.argsE, Ax.extr, Ax.binV, Ax.intBin, Ax.unV, Ax.addOff, Ax.sizeN, Ax.mkV, Ax.okV, reduceIte, Nat.reduceEqDiff, Nat.reduceAdd, Nat.reduceLeDiff, Nat.reduceLT, Nat.reduceSub, Nat.reduceMul, reduceCtorEq, Int.reduceEq, Int.reduceLT, Int.reduceLE, Int.reduceAdd, Int.reduceSub, Int.reduceNeg, Int.reduceToNat, undef, Value.cells, axL]; try rfl) ?_
      refine Ev.known G_live X_live ?_
      repeat' (first
          | (with_reducible first | refine go_assoc ?_ (Ev.mono _ _) | refine go_skip ?_ | refine go_fin ?_ | refine go_ret ?_ | refine go_ret0 ?_ | refine go_exit ?_ | refine go_exit0 ?_ | refine go_block ?_ | refine n_then ?_ | refine x_then ?_ | refine r_then ?_ | refine n_block ?_ | refine r_block ?_ | refine x_block ?_ | refine x_block_ne ?_ (by decide))
          | (with_reducible refine is_k ?_; refine go_k _ (by simp only [Ax.runK, Ax.runOps, Ax.run1, Ax.wantA, Ax.step, Ax.ev, Ax.evs, Ax.evo, Ax.evp, Ax.look, Ax.putE, Ax.keepE, Ax.argsE, Ax.extr, Ax.binV, Ax.intBin, Ax.unV, Ax.addOff, Ax.sizeN, Ax.mkV, Ax.okV, reduceIte, Nat.reduceEqDiff, Nat.reduceAdd, Nat.reduceLeDiff, Nat.reduceLT, Nat.reduceSub, Nat.reduceMul, reduceCtorEq, Int.reduceEq, Int.reduceLT, Int.reduceLE, Int.reduceAdd, Int.reduceSub, Int.reduceNeg, Int.reduceToNat, undef, Value.cells, axL]; rfl) rfl ?_)
          | (with_reducible refine cond_t ?_ ?_; · simp only [Ax.ev, Ax.look, reduceIte, Nat.reduceEqDiff])
          | (with_reducible refine cond_f ?_ ?_; · simp only [Ax.ev, Ax.look, reduceIte, Nat.reduceEqDiff])
          | (with_reducible refine is_rp ?_; first | refine r_postR rfl ?_ | refine r_postR (by simp only [Ax.result, Ax.resVs, Ax.resV, R6, Ax.look, sizeN, mkV, Nat.reduceEqDiff, reduceIte, axL]; rfl) ?_)
          | (with_reducible refine is_np ?_; first | refine n_postR rfl ?_ | refine n_postR (by simp only [Ax.result, Ax.resVs, Ax.resV, R6, Ax.look, sizeN, mkV, Nat.reduceEqDiff, reduceIte, axL]; rfl) ?_)
          | (first | with_reducible refine is_wd ?_ | with_reducible refine dk_wd ?_); refine go_dt _ (by simp only [Ax.runDK, Ax.runDT, Ax.runDops, Ax.run1d, Ax.recs, Ax.okPair, Ax.idsE, Ax.idsV, AOp.mems, AOp.isWrite, DRec.none, axD, Ax.runK, Ax.runOps, Ax.run1, Ax.wantA, Ax.step, Ax.ev, Ax.evs, Ax.evo, Ax.evp, Ax.look, Ax.putE, Ax.keepE, Ax.argsE, Ax.extr, Ax.binV, Ax.intBin, Ax.unV, Ax.addOff, Ax.sizeN, Ax.mkV, Ax.okV, reduceIte, Nat.reduceEqDiff, Nat.reduceAdd, Nat.reduceLeDiff, Nat.reduceLT, Nat.reduceSub, Nat.reduceMul, reduceCtorEq, Int.reduceEq, Int.reduceLT, Int.reduceLE, Int.reduceAdd, Int.reduceSub, Int.reduceNeg, Int.reduceToNat, undef, Value.cells, axL]; rfl) rfl ?_
          | (with_reducible first | refine end_reg (Ev.mono _ _) ?_ | refine end_dreg (Ev.mono _ _) ?_ | refine end_cond (Ev.mono _ _) ?_ | refine end_block (Ev.mono _ _) ?_ | refine end_loop (Ev.mono _ _) ?_))
      rfl
    · repeat' (first
          | (with_reducible first | refine go_assoc ?_ (Ev.mono _ _) | refine go_skip ?_ | refine go_fin ?_ | refine go_ret ?_ | refine go_ret0 ?_ | refine go_exit ?_ | refine go_exit0 ?_ | refine go_block ?_ | refine n_then ?_ | refine x_then ?_ | refine r_then ?_ | refine n_block ?_ | refine r_block ?_ | refine x_block ?_ | refine x_block_ne ?_ (by decide))
          | (with_reducible refine is_k ?_; refine go_k _ (by simp only [Ax.runK, Ax.runOps, Ax.run1, Ax.wantA, Ax.step, Ax.ev, Ax.evs, Ax.evo, Ax.evp, Ax.look, Ax.putE, Ax.keepE, Ax.argsE, Ax.extr, Ax.binV, Ax.intBin, Ax.unV, Ax.addOff, Ax.sizeN, Ax.mkV, Ax.okV, reduceIte, Nat.reduceEqDiff, Nat.reduceAdd, Nat.reduceLeDiff, Nat.reduceLT, Nat.reduceSub, Nat.reduceMul, reduceCtorEq, Int.reduceEq, Int.reduceLT, Int.reduceLE, Int.reduceAdd, Int.reduceSub, Int.reduceNeg, Int.reduceToNat, undef, Value.cells, axL, h, h1, h2]; rfl) rfl ?_)
          | (with_reducible refine cond_t ?_ ?_; · simp only [Ax.ev, Ax.look, reduceIte, Nat.reduceEqDiff])
          | (with_reducible refine cond_f ?_ ?_; · simp only [Ax.ev, Ax.look, reduceIte, Nat.reduceEqDiff])
          | (with_reducible refine is_rp ?_; first | refine r_postR rfl ?_ | refine r_postR (by simp only [Ax.result, Ax.resVs, Ax.resV, R6, Ax.look, sizeN, mkV, Nat.reduceEqDiff, reduceIte, axL, h, h1, h2]; rfl) ?_)
          | (with_reducible refine is_np ?_; first | refine n_postR rfl ?_ | refine n_postR (by simp only [Ax.result, Ax.resVs, Ax.resV, R6, Ax.look, sizeN, mkV, Nat.reduceEqDiff, reduceIte, axL, h, h1, h2]; rfl) ?_)
          | (first | with_reducible refine is_wd ?_ | with_reducible refine dk_wd ?_); refine go_dt _ (by simp only [Ax.runDK, Ax.runDT, Ax.runDops, Ax.run1d, Ax.recs, Ax.okPair, Ax.idsE, Ax.idsV, AOp.mems, AOp.isWrite, DRec.none, axD, Ax.runK, Ax.runOps, Ax.run1, Ax.wantA, Ax.step, Ax.ev, Ax.evs, Ax.evo, Ax.evp, Ax.look, Ax.putE, Ax.keepE, Ax.argsE, Ax.extr, Ax.binV, Ax.intBin, Ax.unV, Ax.addOff, Ax.sizeN, Ax.mkV, Ax.okV, reduceIte, Nat.reduceEqDiff, Nat.reduceAdd, Nat.reduceLeDiff, Nat.reduceLT, Nat.reduceSub, Nat.reduceMul, reduceCtorEq, Int.reduceEq, Int.reduceLT, Int.reduceLE, Int.reduceAdd, Int.reduceSub, Int.reduceNeg, Int.reduceToNat, undef, Value.cells, axL, h, h1, h2]; rfl) rfl ?_
          | (with_reducible first | refine end_reg (Ev.mono _ _) ?_ | refine end_dreg (Ev.mono _ _) ?_ | refine end_cond (Ev.mono _ _) ?_ | refine end_block (Ev.mono _ _) ?_ | refine end_loop (Ev.mono _ _) ?_))
      repeat' (with_reducible first | refine go_assoc ?_ (Ev.mono _ _) | refine go_skip ?_ | refine go_block ?_ | refine end_reg (Ev.mono _ _) ?_)
      refine go_callC _ (by simp only [Ax.runC, AOp.isCall, Ax.runK, Ax.runOps, Ax.run1, Ax.wantA, Ax.step, Ax.ev, Ax.evs, Ax.evo, Ax.evp, Ax.look, Ax.putE, Ax.keepE, Ax.argsE, Ax.extr, Ax.binV, Ax.intBin, Ax.unV, Ax.addOff, Ax.sizeN, Ax.mkV, Ax.okV, reduceIte, Nat.reduceEqDiff, Nat.reduceAdd, Nat.reduceLeDiff, Nat.reduceLT, Nat.reduceSub, Nat.reduceMul, reduceCtorEq, Int.reduceEq, Int.reduceLT, Int.reduceLE, Int.reduceAdd, Int.reduceSub, Int.reduceNeg, Int.reduceToNat, undef, Value.cells, axL]; rfl) rfl rfl (by simp only [Ax.wantA, Ax.look, reduceIte, Nat.reduceEqDiff, bq_t, bq_f, Bool.not_true, Bool.not_false]; try rfl) rfl (by simp only [Ax.runK, Ax.runOps, Ax.run1, Ax.wantA, Ax.step, Ax.ev, Ax.evs, Ax.evo, Ax.evp, Ax.look, Ax.putE, Ax.keepE, Ax.argsE, Ax.extr, Ax.binV, Ax.intBin, Ax.unV, Ax.addOff, Ax.sizeN, Ax.mkV, Ax.okV, reduceIte, Nat.reduceEqDiff, Nat.reduceAdd, Nat.reduceLeDiff, Nat.reduceLT, Nat.reduceSub, Nat.reduceMul, reduceCtorEq, Int.reduceEq, Int.reduceLT, Int.reduceLE, Int.reduceAdd, Int.reduceSub, Int.reduceNeg, Int.reduceToNat, undef, Value.cells, axL]; try rfl) ?_
      refine Ev.known G_live X_live ?_
      repeat' (first
          | (with_reducible first | refine go_assoc ?_ (Ev.mono _ _) | refine go_skip ?_ | refine go_fin ?_ | refine go_ret ?_ | refine go_ret0 ?_ | refine go_exit ?_ | refine go_exit0 ?_ | refine go_block ?_ | refine n_then ?_ | refine x_then ?_ | refine r_then ?_ | refine n_block ?_ | refine r_block ?_ | refine x_block ?_ | refine x_block_ne ?_ (by decide))
          | (with_reducible refine is_k ?_; refine go_k _ (by simp only [Ax.runK, Ax.runOps, Ax.run1, Ax.wantA, Ax.step, Ax.ev, Ax.evs, Ax.evo, Ax.evp, Ax.look, Ax.putE, Ax.keepE, Ax.argsE, Ax.extr, Ax.binV, Ax.intBin, Ax.unV, Ax.addOff, Ax.sizeN, Ax.mkV, Ax.okV, reduceIte, Nat.reduceEqDiff, Nat.reduceAdd, Nat.reduceLeDiff, Nat.reduceLT, Nat.reduceSub, Nat.reduceMul, reduceCtorEq, Int.reduceEq, Int.reduceLT, Int.reduceLE, Int.reduceAdd, Int.reduceSub, Int.reduceNeg, Int.reduceToNat, undef, Value.cells, axL]; rfl) rfl ?_)
          | (with_reducible refine cond_t ?_ ?_; · simp only [Ax.ev, Ax.look, reduceIte, Nat.reduceEqDiff])
          | (with_reducible refine cond_f ?_ ?_; · simp only [Ax.ev, Ax.look, reduceIte, Nat.reduceEqDiff])
          | (with_reducible refine is_rp ?_; first | refine r_postR rfl ?_ | refine r_postR (by simp only [Ax.result, Ax.resVs, Ax.resV, R6, Ax.look, sizeN, mkV, Nat.reduceEqDiff, reduceIte, axL]; rfl) ?_)
          | (with_reducible refine is_np ?_; first | refine n_postR rfl ?_ | refine n_postR (by simp only [Ax.result, Ax.resVs, Ax.resV, R6, Ax.look, sizeN, mkV, Nat.reduceEqDiff, reduceIte, axL]; rfl) ?_)
          | (first | with_reducible refine is_wd ?_ | with_reducible refine dk_wd ?_); refine go_dt _ (by simp only [Ax.runDK, Ax.runDT, Ax.runDops, Ax.run1d, Ax.recs, Ax.okPair, Ax.idsE, Ax.idsV, AOp.mems, AOp.isWrite, DRec.none, axD, Ax.runK, Ax.runOps, Ax.run1, Ax.wantA, Ax.step, Ax.ev, Ax.evs, Ax.evo, Ax.evp, Ax.look, Ax.putE, Ax.keepE, Ax.argsE, Ax.extr, Ax.binV, Ax.intBin, Ax.unV, Ax.addOff, Ax.sizeN, Ax.mkV, Ax.okV, reduceIte, Nat.reduceEqDiff, Nat.reduceAdd, Nat.reduceLeDiff, Nat.reduceLT, Nat.reduceSub, Nat.reduceMul, reduceCtorEq, Int.reduceEq, Int.reduceLT, Int.reduceLE, Int.reduceAdd, Int.reduceSub, Int.reduceNeg, Int.reduceToNat, undef, Value.cells, axL]; rfl) rfl ?_
          | (with_reducible first | refine end_reg (Ev.mono _ _) ?_ | refine end_dreg (Ev.mono _ _) ?_ | refine end_cond (Ev.mono _ _) ?_ | refine end_block (Ev.mono _ _) ?_ | refine end_loop (Ev.mono _ _) ?_))
      rfl
    · subst h
      repeat' (first
          | (with_reducible first | refine go_assoc ?_ (Ev.mono _ _) | refine go_skip ?_ | refine go_fin ?_ | refine go_ret ?_ | refine go_ret0 ?_ | refine go_exit ?_ | refine go_exit0 ?_ | refine go_block ?_ | refine n_then ?_ | refine x_then ?_ | refine r_then ?_ | refine n_block ?_ | refine r_block ?_ | refine x_block ?_ | refine x_block_ne ?_ (by decide))
          | (with_reducible refine is_k ?_; refine go_k _ (by simp only [Ax.runK, Ax.runOps, Ax.run1, Ax.wantA, Ax.step, Ax.ev, Ax.evs, Ax.evo, Ax.evp, Ax.look, Ax.putE, Ax.keepE, Ax.argsE, Ax.extr, Ax.binV, Ax.intBin, Ax.unV, Ax.addOff, Ax.sizeN, Ax.mkV, Ax.okV, reduceIte, Nat.reduceEqDiff, Nat.reduceAdd, Nat.reduceLeDiff, Nat.reduceLT, Nat.reduceSub, Nat.reduceMul, reduceCtorEq, Int.reduceEq, Int.reduceLT, Int.reduceLE, Int.reduceAdd, Int.reduceSub, Int.reduceNeg, Int.reduceToNat, undef, Value.cells, axL, h1, h2, h3]; rfl) rfl ?_)
          | (with_reducible refine cond_t ?_ ?_; · simp only [Ax.ev, Ax.look, reduceIte, Nat.reduceEqDiff])
          | (with_reducible refine cond_f ?_ ?_; · simp only [Ax.ev, Ax.look, reduceIte, Nat.reduceEqDiff])
          | (with_reducible refine is_rp ?_; first | refine r_postR rfl ?_ | refine r_postR (by simp only [Ax.result, Ax.resVs, Ax.resV, R6, Ax.look, sizeN, mkV, Nat.reduceEqDiff, reduceIte, axL, h1, h2, h3]; rfl) ?_)
          | (with_reducible refine is_np ?_; first | refine n_postR rfl ?_ | refine n_postR (by simp only [Ax.result, Ax.resVs, Ax.resV, R6, Ax.look, sizeN, mkV, Nat.reduceEqDiff, reduceIte, axL, h1, h2, h3]; rfl) ?_)
          | (first | with_reducible refine is_wd ?_ | with_reducible refine dk_wd ?_); refine go_dt _ (by simp only [Ax.runDK, Ax.runDT, Ax.runDops, Ax.run1d, Ax.recs, Ax.okPair, Ax.idsE, Ax.idsV, AOp.mems, AOp.isWrite, DRec.none, axD, Ax.runK, Ax.runOps, Ax.run1, Ax.wantA, Ax.step, Ax.ev, Ax.evs, Ax.evo, Ax.evp, Ax.look, Ax.putE, Ax.keepE, Ax.argsE, Ax.extr, Ax.binV, Ax.intBin, Ax.unV, Ax.addOff, Ax.sizeN, Ax.mkV, Ax.okV, reduceIte, Nat.reduceEqDiff, Nat.reduceAdd, Nat.reduceLeDiff, Nat.reduceLT, Nat.reduceSub, Nat.reduceMul, reduceCtorEq, Int.reduceEq, Int.reduceLT, Int.reduceLE, Int.reduceAdd, Int.reduceSub, Int.reduceNeg, Int.reduceToNat, undef, Value.cells, axL, h1, h2, h3]; rfl) rfl ?_
          | (with_reducible first | refine end_reg (Ev.mono _ _) ?_ | refine end_dreg (Ev.mono _ _) ?_ | refine end_cond (Ev.mono _ _) ?_ | refine end_block (Ev.mono _ _) ?_ | refine end_loop (Ev.mono _ _) ?_))
      repeat' (with_reducible first | refine go_assoc ?_ (Ev.mono _ _) | refine go_skip ?_ | refine go_block ?_ | refine end_reg (Ev.mono _ _) ?_)
      refine go_callC _ (by simp only [Ax.runC, AOp.isCall, Ax.runK, Ax.runOps, Ax.run1, Ax.wantA, Ax.step, Ax.ev, Ax.evs, Ax.evo, Ax.evp, Ax.look, Ax.putE, Ax.keepE, Ax.argsE, Ax.extr, Ax.binV, Ax.intBin, Ax.unV, Ax.addOff, Ax.sizeN, Ax.mkV, Ax.okV, reduceIte, Nat.reduceEqDiff, Nat.reduceAdd, Nat.reduceLeDiff, Nat.reduceLT, Nat.reduceSub, Nat.reduceMul, reduceCtorEq, Int.reduceEq, Int.reduceLT, Int.reduceLE, Int.reduceAdd, Int.reduceSub, Int.reduceNeg, Int.reduceToNat, undef, Value.cells, axL]; rfl) rfl rfl (by simp only [Ax.wantA, Ax.look, reduceIte, Nat.reduceEqDiff, bq_t, bq_f, Bool.not_true, Bool.not_false]; try rfl) rfl (by simp only [Ax.runK, Ax.runOps, Ax.run1, Ax.wantA, Ax.step, Ax.ev, Ax.evs, Ax.evo, Ax.evp, Ax.look, Ax.putE, Ax.keepE, Ax.argsE, Ax.extr, Ax.binV, Ax.intBin, Ax.unV, Ax.addOff, Ax.sizeN, Ax.mkV, Ax.okV, reduceIte, Nat.reduceEqDiff, Nat.reduceAdd, Nat.reduceLeDiff, Nat.reduceLT, Nat.reduceSub, Nat.reduceMul, reduceCtorEq, Int.reduceEq, Int.reduceLT, Int.reduceLE, Int.reduceAdd, Int.reduceSub, Int.reduceNeg, Int.reduceToNat, undef, Value.cells, axL]; try rfl) ?_
      refine Ev.known G_live X_live ?_
      repeat' (first
          | (with_reducible first | refine go_assoc ?_ (Ev.mono _ _) | refine go_skip ?_ | refine go_fin ?_ | refine go_ret ?_ | refine go_ret0 ?_ | refine go_exit ?_ | refine go_exit0 ?_ | refine go_block ?_ | refine n_then ?_ | refine x_then ?_ | refine r_then ?_ | refine n_block ?_ | refine r_block ?_ | refine x_block ?_ | refine x_block_ne ?_ (by decide))
          | (with_reducible refine is_k ?_; refine go_k _ (by simp only [Ax.runK, Ax.runOps, Ax.run1, Ax.wantA, Ax.step, Ax.ev, Ax.evs, Ax.evo, Ax.evp, Ax.look, Ax.putE, Ax.keepE, Ax.argsE, Ax.extr, Ax.binV, Ax.intBin, Ax.unV, Ax.addOff, Ax.sizeN, Ax.mkV, Ax.okV, reduceIte, Nat.reduceEqDiff, Nat.reduceAdd, Nat.reduceLeDiff, Nat.reduceLT, Nat.reduceSub, Nat.reduceMul, reduceCtorEq, Int.reduceEq, Int.reduceLT, Int.reduceLE, Int.reduceAdd, Int.reduceSub, Int.reduceNeg, Int.reduceToNat, undef, Value.cells, axL]; rfl) rfl ?_)
          | (with_reducible refine cond_t ?_ ?_; · simp only [Ax.ev, Ax.look, reduceIte, Nat.reduceEqDiff])
          | (with_reducible refine cond_f ?_ ?_; · simp only [Ax.ev, Ax.look, reduceIte, Nat.reduceEqDiff])
          | (with_reducible refine is_rp ?_; first | refine r_postR rfl ?_ | refine r_postR (by simp only [Ax.result, Ax.resVs, Ax.resV, R6, Ax.look, sizeN, mkV, Nat.reduceEqDiff, reduceIte, axL]; rfl) ?_)
          | (with_reducible refine is_np ?_; first | refine n_postR rfl ?_ | refine n_postR (by simp only [Ax.result, Ax.resVs, Ax.resV, R6, Ax.look, sizeN, mkV, Nat.reduceEqDiff, reduceIte, axL]; rfl) ?_)
          | (first | with_reducible refine is_wd ?_ | with_reducible refine dk_wd ?_); refine go_dt _ (by simp only [Ax.runDK, Ax.runDT, Ax.runDops, Ax.run1d, Ax.recs, Ax.okPair, Ax.idsE, Ax.idsV, AOp.mems, AOp.isWrite, DRec.none, axD, Ax.runK, Ax.runOps, Ax.run1, Ax.wantA, Ax.step, Ax.ev, Ax.evs, Ax.evo, Ax.evp, Ax.look, Ax.putE, Ax.keepE, Ax.argsE, Ax.extr, Ax.binV, Ax.intBin, Ax.unV, Ax.addOff, Ax.sizeN, Ax.mkV, Ax.okV, reduceIte, Nat.reduceEqDiff, Nat.reduceAdd, Nat.reduceLeDiff, Nat.reduceLT, Nat.reduceSub, Nat.reduceMul, reduceCtorEq, Int.reduceEq, Int.reduceLT, Int.reduceLE, Int.reduceAdd, Int.reduceSub, Int.reduceNeg, Int.reduceToNat, undef, Value.cells, axL]; rfl) rfl ?_
          | (with_reducible first | refine end_reg (Ev.mono _ _) ?_ | refine end_dreg (Ev.mono _ _) ?_ | refine end_cond (Ev.mono _ _) ?_ | refine end_block (Ev.mono _ _) ?_ | refine end_loop (Ev.mono _ _) ?_))
      rfl
  · have h1 : ¬ t < 0 := by omega
    have h2 : ¬ o < 0 := by omega
    have h3 : ¬ s < 0 := by omega
    have h4 : ¬ t = o := by omega
    have h4' : ¬ o = t := by omega
    have s0 : ∀ a b c d e, Small ⟨a, b, c, d, e⟩ ↔ e.length < 1000000 ∧ ∀ r ∈ e, r.2.length < 1000000 := fun _ _ _ _ _ => Iff.rfl
    have k1 : takeM lock0 t s = (⟨true, t, s, 0, []⟩, true, 0) := by simp [takeM, lock0, waitsM, h1, h3]
    have k2 : takeM ⟨true, t, s, 0, []⟩ t s = (⟨true, t, s, 0, []⟩, false, 8) := by simp [takeM, h1, h3]
    have k3 : giveM ⟨true, t, s, 0, []⟩ o = (⟨true, t, s, 0, []⟩, 0, false, 8) := by simp [giveM, h4]
    have k4 : takeM ⟨true, t, s, 0, []⟩ o s = (⟨true, t, s, 0, [(s, [o])]⟩, false, 0) := by simp [takeM, waitsM, h2, h3, h4, addRow, rowsFor, rowFor, idxL]
    have k5 : takeM ⟨true, t, s, 0, [(s, [o])]⟩ o s = (⟨true, t, s, 0, [(s, [o])]⟩, false, 9) := by simp [takeM, waitsM, h2, h3, h4]
    have k6 : (giveM ⟨true, t, s, 0, [(s, [o])]⟩ t).2 = (o, true, 0) := by simp [giveM, passM, staysM, idxL, headAt, ownI]
    have i1 : LkInv ⟨true, t, s, 0, []⟩ := ⟨by simp [s0], by simp [Full], by simp, by unfold I64; simp⟩
    have i2 : LkInv ⟨true, t, s, 0, [(s, [o])]⟩ := ⟨by simp [s0], by simp [Full], by simp, by unfold I64; simp⟩
    repeat' (first
        | (with_reducible first | refine go_assoc ?_ (Ev.mono _ _) | refine go_skip ?_ | refine go_fin ?_ | refine go_ret ?_ | refine go_ret0 ?_ | refine go_exit ?_ | refine go_exit0 ?_ | refine go_block ?_ | refine n_then ?_ | refine x_then ?_ | refine r_then ?_ | refine n_block ?_ | refine r_block ?_ | refine x_block ?_ | refine x_block_ne ?_ (by decide))
        | (with_reducible refine is_k ?_; refine go_k _ (by simp only [Ax.runK, Ax.runOps, Ax.run1, Ax.wantA, Ax.step, Ax.ev, Ax.evs, Ax.evo, Ax.evp, Ax.look, Ax.putE, Ax.keepE, Ax.argsE, Ax.extr, Ax.binV, Ax.intBin, Ax.unV, Ax.addOff, Ax.sizeN, Ax.mkV, Ax.okV, reduceIte, Nat.reduceEqDiff, Nat.reduceAdd, Nat.reduceLeDiff, Nat.reduceLT, Nat.reduceSub, Nat.reduceMul, reduceCtorEq, Int.reduceEq, Int.reduceLT, Int.reduceLE, Int.reduceAdd, Int.reduceSub, Int.reduceNeg, Int.reduceToNat, undef, Value.cells, axL, h1, h2, h3, h4]; rfl) rfl ?_)
        | (with_reducible refine cond_t ?_ ?_; · simp only [Ax.ev, Ax.look, reduceIte, Nat.reduceEqDiff])
        | (with_reducible refine cond_f ?_ ?_; · simp only [Ax.ev, Ax.look, reduceIte, Nat.reduceEqDiff])
        | (with_reducible refine is_rp ?_; first | refine r_postR rfl ?_ | refine r_postR (by simp only [Ax.result, Ax.resVs, Ax.resV, R6, Ax.look, sizeN, mkV, Nat.reduceEqDiff, reduceIte, axL, h1, h2, h3, h4]; rfl) ?_)
        | (with_reducible refine is_np ?_; first | refine n_postR rfl ?_ | refine n_postR (by simp only [Ax.result, Ax.resVs, Ax.resV, R6, Ax.look, sizeN, mkV, Nat.reduceEqDiff, reduceIte, axL, h1, h2, h3, h4]; rfl) ?_)
        | (first | with_reducible refine is_wd ?_ | with_reducible refine dk_wd ?_); refine go_dt _ (by simp only [Ax.runDK, Ax.runDT, Ax.runDops, Ax.run1d, Ax.recs, Ax.okPair, Ax.idsE, Ax.idsV, AOp.mems, AOp.isWrite, DRec.none, axD, Ax.runK, Ax.runOps, Ax.run1, Ax.wantA, Ax.step, Ax.ev, Ax.evs, Ax.evo, Ax.evp, Ax.look, Ax.putE, Ax.keepE, Ax.argsE, Ax.extr, Ax.binV, Ax.intBin, Ax.unV, Ax.addOff, Ax.sizeN, Ax.mkV, Ax.okV, reduceIte, Nat.reduceEqDiff, Nat.reduceAdd, Nat.reduceLeDiff, Nat.reduceLT, Nat.reduceSub, Nat.reduceMul, reduceCtorEq, Int.reduceEq, Int.reduceLT, Int.reduceLE, Int.reduceAdd, Int.reduceSub, Int.reduceNeg, Int.reduceToNat, undef, Value.cells, axL, h1, h2, h3, h4]; rfl) rfl ?_
        | (with_reducible first | refine end_reg (Ev.mono _ _) ?_ | refine end_dreg (Ev.mono _ _) ?_ | refine end_cond (Ev.mono _ _) ?_ | refine end_block (Ev.mono _ _) ?_ | refine end_loop (Ev.mono _ _) ?_))
    repeat' (with_reducible first | refine go_assoc ?_ (Ev.mono _ _) | refine go_skip ?_ | refine go_block ?_ | refine end_reg (Ev.mono _ _) ?_)
    refine go_callC _ (by simp only [Ax.runC, AOp.isCall, Ax.runK, Ax.runOps, Ax.run1, Ax.wantA, Ax.step, Ax.ev, Ax.evs, Ax.evo, Ax.evp, Ax.look, Ax.putE, Ax.keepE, Ax.argsE, Ax.extr, Ax.binV, Ax.intBin, Ax.unV, Ax.addOff, Ax.sizeN, Ax.mkV, Ax.okV, reduceIte, Nat.reduceEqDiff, Nat.reduceAdd, Nat.reduceLeDiff, Nat.reduceLT, Nat.reduceSub, Nat.reduceMul, reduceCtorEq, Int.reduceEq, Int.reduceLT, Int.reduceLE, Int.reduceAdd, Int.reduceSub, Int.reduceNeg, Int.reduceToNat, undef, Value.cells, axL]; rfl) rfl rfl (by simp only [Ax.wantA, Ax.look, reduceIte, Nat.reduceEqDiff, bq_t, bq_f, Bool.not_true, Bool.not_false]; try rfl) rfl (by simp only [Ax.runK, Ax.runOps, Ax.run1, Ax.wantA, Ax.step, Ax.ev, Ax.evs, Ax.evo, Ax.evp, Ax.look, Ax.putE, Ax.keepE, Ax.argsE, Ax.extr, Ax.binV, Ax.intBin, Ax.unV, Ax.addOff, Ax.sizeN, Ax.mkV, Ax.okV, reduceIte, Nat.reduceEqDiff, Nat.reduceAdd, Nat.reduceLeDiff, Nat.reduceLT, Nat.reduceSub, Nat.reduceMul, reduceCtorEq, Int.reduceEq, Int.reduceLT, Int.reduceLE, Int.reduceAdd, Int.reduceSub, Int.reduceNeg, Int.reduceToNat, undef, Value.cells, axL]; try rfl) ?_
    refine new_spec XL H 1 (fun L S1 H1 => ?_)
    have hc : List.replicate (lockCount 1) lock0 = [lock0] := rfl
    rw [hc] at H1
    repeat' (first
        | (with_reducible first | refine go_assoc ?_ (Ev.mono _ _) | refine go_skip ?_ | refine go_fin ?_ | refine go_ret ?_ | refine go_ret0 ?_ | refine go_exit ?_ | refine go_exit0 ?_ | refine go_block ?_ | refine n_then ?_ | refine x_then ?_ | refine r_then ?_ | refine n_block ?_ | refine r_block ?_ | refine x_block ?_ | refine x_block_ne ?_ (by decide))
        | (with_reducible refine is_k ?_; refine go_k _ (by simp only [Ax.runK, Ax.runOps, Ax.run1, Ax.wantA, Ax.step, Ax.ev, Ax.evs, Ax.evo, Ax.evp, Ax.look, Ax.putE, Ax.keepE, Ax.argsE, Ax.extr, Ax.binV, Ax.intBin, Ax.unV, Ax.addOff, Ax.sizeN, Ax.mkV, Ax.okV, reduceIte, Nat.reduceEqDiff, Nat.reduceAdd, Nat.reduceLeDiff, Nat.reduceLT, Nat.reduceSub, Nat.reduceMul, reduceCtorEq, Int.reduceEq, Int.reduceLT, Int.reduceLE, Int.reduceAdd, Int.reduceSub, Int.reduceNeg, Int.reduceToNat, undef, Value.cells, axL]; rfl) rfl ?_)
        | (with_reducible refine cond_t ?_ ?_; · simp only [Ax.ev, Ax.look, reduceIte, Nat.reduceEqDiff])
        | (with_reducible refine cond_f ?_ ?_; · simp only [Ax.ev, Ax.look, reduceIte, Nat.reduceEqDiff])
        | (with_reducible refine is_rp ?_; first | refine r_postR rfl ?_ | refine r_postR (by simp only [Ax.result, Ax.resVs, Ax.resV, R6, Ax.look, sizeN, mkV, Nat.reduceEqDiff, reduceIte, axL]; rfl) ?_)
        | (with_reducible refine is_np ?_; first | refine n_postR rfl ?_ | refine n_postR (by simp only [Ax.result, Ax.resVs, Ax.resV, R6, Ax.look, sizeN, mkV, Nat.reduceEqDiff, reduceIte, axL]; rfl) ?_)
        | (first | with_reducible refine is_wd ?_ | with_reducible refine dk_wd ?_); refine go_dt _ (by simp only [Ax.runDK, Ax.runDT, Ax.runDops, Ax.run1d, Ax.recs, Ax.okPair, Ax.idsE, Ax.idsV, AOp.mems, AOp.isWrite, DRec.none, axD, Ax.runK, Ax.runOps, Ax.run1, Ax.wantA, Ax.step, Ax.ev, Ax.evs, Ax.evo, Ax.evp, Ax.look, Ax.putE, Ax.keepE, Ax.argsE, Ax.extr, Ax.binV, Ax.intBin, Ax.unV, Ax.addOff, Ax.sizeN, Ax.mkV, Ax.okV, reduceIte, Nat.reduceEqDiff, Nat.reduceAdd, Nat.reduceLeDiff, Nat.reduceLT, Nat.reduceSub, Nat.reduceMul, reduceCtorEq, Int.reduceEq, Int.reduceLT, Int.reduceLE, Int.reduceAdd, Int.reduceSub, Int.reduceNeg, Int.reduceToNat, undef, Value.cells, axL]; rfl) rfl ?_
        | (with_reducible first | refine end_reg (Ev.mono _ _) ?_ | refine end_dreg (Ev.mono _ _) ?_ | refine end_cond (Ev.mono _ _) ?_ | refine end_block (Ev.mono _ _) ?_ | refine end_loop (Ev.mono _ _) ?_))
    repeat' (with_reducible first | refine go_assoc ?_ (Ev.mono _ _) | refine go_skip ?_ | refine go_block ?_ | refine end_reg (Ev.mono _ _) ?_)
    refine go_callC _ (by simp only [Ax.runC, AOp.isCall, Ax.runK, Ax.runOps, Ax.run1, Ax.wantA, Ax.step, Ax.ev, Ax.evs, Ax.evo, Ax.evp, Ax.look, Ax.putE, Ax.keepE, Ax.argsE, Ax.extr, Ax.binV, Ax.intBin, Ax.unV, Ax.addOff, Ax.sizeN, Ax.mkV, Ax.okV, reduceIte, Nat.reduceEqDiff, Nat.reduceAdd, Nat.reduceLeDiff, Nat.reduceLT, Nat.reduceSub, Nat.reduceMul, reduceCtorEq, Int.reduceEq, Int.reduceLT, Int.reduceLE, Int.reduceAdd, Int.reduceSub, Int.reduceNeg, Int.reduceToNat, undef, Value.cells, axL]; rfl) rfl rfl (by simp only [Ax.wantA, Ax.look, reduceIte, Nat.reduceEqDiff, bq_t, bq_f, Bool.not_true, Bool.not_false]; try rfl) rfl (by simp only [Ax.runK, Ax.runOps, Ax.run1, Ax.wantA, Ax.step, Ax.ev, Ax.evs, Ax.evo, Ax.evp, Ax.look, Ax.putE, Ax.keepE, Ax.argsE, Ax.extr, Ax.binV, Ax.intBin, Ax.unV, Ax.addOff, Ax.sizeN, Ax.mkV, Ax.okV, reduceIte, Nat.reduceEqDiff, Nat.reduceAdd, Nat.reduceLeDiff, Nat.reduceLT, Nat.reduceSub, Nat.reduceMul, reduceCtorEq, Int.reduceEq, Int.reduceLT, Int.reduceLE, Int.reduceAdd, Int.reduceSub, Int.reduceNeg, Int.reduceToNat, undef, Value.cells, axL]; try rfl) ?_
    refine take1_spec XL H1 (by simp [lock0, s0]) t s (fun S2 H2 => ?_)
    rw [k1] at H2 ⊢
    repeat' (first
        | (with_reducible first | refine go_assoc ?_ (Ev.mono _ _) | refine go_skip ?_ | refine go_fin ?_ | refine go_ret ?_ | refine go_ret0 ?_ | refine go_exit ?_ | refine go_exit0 ?_ | refine go_block ?_ | refine n_then ?_ | refine x_then ?_ | refine r_then ?_ | refine n_block ?_ | refine r_block ?_ | refine x_block ?_ | refine x_block_ne ?_ (by decide))
        | (with_reducible refine is_k ?_; refine go_k _ (by simp only [Ax.runK, Ax.runOps, Ax.run1, Ax.wantA, Ax.step, Ax.ev, Ax.evs, Ax.evo, Ax.evp, Ax.look, Ax.putE, Ax.keepE, Ax.argsE, Ax.extr, Ax.binV, Ax.intBin, Ax.unV, Ax.addOff, Ax.sizeN, Ax.mkV, Ax.okV, reduceIte, Nat.reduceEqDiff, Nat.reduceAdd, Nat.reduceLeDiff, Nat.reduceLT, Nat.reduceSub, Nat.reduceMul, reduceCtorEq, Int.reduceEq, Int.reduceLT, Int.reduceLE, Int.reduceAdd, Int.reduceSub, Int.reduceNeg, Int.reduceToNat, undef, Value.cells, axL]; rfl) rfl ?_)
        | (with_reducible refine cond_t ?_ ?_; · simp only [Ax.ev, Ax.look, reduceIte, Nat.reduceEqDiff])
        | (with_reducible refine cond_f ?_ ?_; · simp only [Ax.ev, Ax.look, reduceIte, Nat.reduceEqDiff])
        | (with_reducible refine is_rp ?_; first | refine r_postR rfl ?_ | refine r_postR (by simp only [Ax.result, Ax.resVs, Ax.resV, R6, Ax.look, sizeN, mkV, Nat.reduceEqDiff, reduceIte, axL]; rfl) ?_)
        | (with_reducible refine is_np ?_; first | refine n_postR rfl ?_ | refine n_postR (by simp only [Ax.result, Ax.resVs, Ax.resV, R6, Ax.look, sizeN, mkV, Nat.reduceEqDiff, reduceIte, axL]; rfl) ?_)
        | (first | with_reducible refine is_wd ?_ | with_reducible refine dk_wd ?_); refine go_dt _ (by simp only [Ax.runDK, Ax.runDT, Ax.runDops, Ax.run1d, Ax.recs, Ax.okPair, Ax.idsE, Ax.idsV, AOp.mems, AOp.isWrite, DRec.none, axD, Ax.runK, Ax.runOps, Ax.run1, Ax.wantA, Ax.step, Ax.ev, Ax.evs, Ax.evo, Ax.evp, Ax.look, Ax.putE, Ax.keepE, Ax.argsE, Ax.extr, Ax.binV, Ax.intBin, Ax.unV, Ax.addOff, Ax.sizeN, Ax.mkV, Ax.okV, reduceIte, Nat.reduceEqDiff, Nat.reduceAdd, Nat.reduceLeDiff, Nat.reduceLT, Nat.reduceSub, Nat.reduceMul, reduceCtorEq, Int.reduceEq, Int.reduceLT, Int.reduceLE, Int.reduceAdd, Int.reduceSub, Int.reduceNeg, Int.reduceToNat, undef, Value.cells, axL]; rfl) rfl ?_
        | (with_reducible first | refine end_reg (Ev.mono _ _) ?_ | refine end_dreg (Ev.mono _ _) ?_ | refine end_cond (Ev.mono _ _) ?_ | refine end_block (Ev.mono _ _) ?_ | refine end_loop (Ev.mono _ _) ?_))
    repeat' (with_reducible first | refine go_assoc ?_ (Ev.mono _ _) | refine go_skip ?_ | refine go_block ?_ | refine end_reg (Ev.mono _ _) ?_)
    refine go_callC _ (by simp only [Ax.runC, AOp.isCall, Ax.runK, Ax.runOps, Ax.run1, Ax.wantA, Ax.step, Ax.ev, Ax.evs, Ax.evo, Ax.evp, Ax.look, Ax.putE, Ax.keepE, Ax.argsE, Ax.extr, Ax.binV, Ax.intBin, Ax.unV, Ax.addOff, Ax.sizeN, Ax.mkV, Ax.okV, reduceIte, Nat.reduceEqDiff, Nat.reduceAdd, Nat.reduceLeDiff, Nat.reduceLT, Nat.reduceSub, Nat.reduceMul, reduceCtorEq, Int.reduceEq, Int.reduceLT, Int.reduceLE, Int.reduceAdd, Int.reduceSub, Int.reduceNeg, Int.reduceToNat, undef, Value.cells, axL]; rfl) rfl rfl (by simp only [Ax.wantA, Ax.look, reduceIte, Nat.reduceEqDiff, bq_t, bq_f, Bool.not_true, Bool.not_false]; try rfl) rfl (by simp only [Ax.runK, Ax.runOps, Ax.run1, Ax.wantA, Ax.step, Ax.ev, Ax.evs, Ax.evo, Ax.evp, Ax.look, Ax.putE, Ax.keepE, Ax.argsE, Ax.extr, Ax.binV, Ax.intBin, Ax.unV, Ax.addOff, Ax.sizeN, Ax.mkV, Ax.okV, reduceIte, Nat.reduceEqDiff, Nat.reduceAdd, Nat.reduceLeDiff, Nat.reduceLT, Nat.reduceSub, Nat.reduceMul, reduceCtorEq, Int.reduceEq, Int.reduceLT, Int.reduceLE, Int.reduceAdd, Int.reduceSub, Int.reduceNeg, Int.reduceToNat, undef, Value.cells, axL]; try rfl) ?_
    refine take1_spec XL H2 i1.small t s (fun S3 H3 => ?_)
    rw [k2] at H3 ⊢
    repeat' (first
        | (with_reducible first | refine go_assoc ?_ (Ev.mono _ _) | refine go_skip ?_ | refine go_fin ?_ | refine go_ret ?_ | refine go_ret0 ?_ | refine go_exit ?_ | refine go_exit0 ?_ | refine go_block ?_ | refine n_then ?_ | refine x_then ?_ | refine r_then ?_ | refine n_block ?_ | refine r_block ?_ | refine x_block ?_ | refine x_block_ne ?_ (by decide))
        | (with_reducible refine is_k ?_; refine go_k _ (by simp only [Ax.runK, Ax.runOps, Ax.run1, Ax.wantA, Ax.step, Ax.ev, Ax.evs, Ax.evo, Ax.evp, Ax.look, Ax.putE, Ax.keepE, Ax.argsE, Ax.extr, Ax.binV, Ax.intBin, Ax.unV, Ax.addOff, Ax.sizeN, Ax.mkV, Ax.okV, reduceIte, Nat.reduceEqDiff, Nat.reduceAdd, Nat.reduceLeDiff, Nat.reduceLT, Nat.reduceSub, Nat.reduceMul, reduceCtorEq, Int.reduceEq, Int.reduceLT, Int.reduceLE, Int.reduceAdd, Int.reduceSub, Int.reduceNeg, Int.reduceToNat, undef, Value.cells, axL]; rfl) rfl ?_)
        | (with_reducible refine cond_t ?_ ?_; · simp only [Ax.ev, Ax.look, reduceIte, Nat.reduceEqDiff])
        | (with_reducible refine cond_f ?_ ?_; · simp only [Ax.ev, Ax.look, reduceIte, Nat.reduceEqDiff])
        | (with_reducible refine is_rp ?_; first | refine r_postR rfl ?_ | refine r_postR (by simp only [Ax.result, Ax.resVs, Ax.resV, R6, Ax.look, sizeN, mkV, Nat.reduceEqDiff, reduceIte, axL]; rfl) ?_)
        | (with_reducible refine is_np ?_; first | refine n_postR rfl ?_ | refine n_postR (by simp only [Ax.result, Ax.resVs, Ax.resV, R6, Ax.look, sizeN, mkV, Nat.reduceEqDiff, reduceIte, axL]; rfl) ?_)
        | (first | with_reducible refine is_wd ?_ | with_reducible refine dk_wd ?_); refine go_dt _ (by simp only [Ax.runDK, Ax.runDT, Ax.runDops, Ax.run1d, Ax.recs, Ax.okPair, Ax.idsE, Ax.idsV, AOp.mems, AOp.isWrite, DRec.none, axD, Ax.runK, Ax.runOps, Ax.run1, Ax.wantA, Ax.step, Ax.ev, Ax.evs, Ax.evo, Ax.evp, Ax.look, Ax.putE, Ax.keepE, Ax.argsE, Ax.extr, Ax.binV, Ax.intBin, Ax.unV, Ax.addOff, Ax.sizeN, Ax.mkV, Ax.okV, reduceIte, Nat.reduceEqDiff, Nat.reduceAdd, Nat.reduceLeDiff, Nat.reduceLT, Nat.reduceSub, Nat.reduceMul, reduceCtorEq, Int.reduceEq, Int.reduceLT, Int.reduceLE, Int.reduceAdd, Int.reduceSub, Int.reduceNeg, Int.reduceToNat, undef, Value.cells, axL]; rfl) rfl ?_
        | (with_reducible first | refine end_reg (Ev.mono _ _) ?_ | refine end_dreg (Ev.mono _ _) ?_ | refine end_cond (Ev.mono _ _) ?_ | refine end_block (Ev.mono _ _) ?_ | refine end_loop (Ev.mono _ _) ?_))
    repeat' (with_reducible first | refine go_assoc ?_ (Ev.mono _ _) | refine go_skip ?_ | refine go_block ?_ | refine end_reg (Ev.mono _ _) ?_)
    refine go_callC _ (by simp only [Ax.runC, AOp.isCall, Ax.runK, Ax.runOps, Ax.run1, Ax.wantA, Ax.step, Ax.ev, Ax.evs, Ax.evo, Ax.evp, Ax.look, Ax.putE, Ax.keepE, Ax.argsE, Ax.extr, Ax.binV, Ax.intBin, Ax.unV, Ax.addOff, Ax.sizeN, Ax.mkV, Ax.okV, reduceIte, Nat.reduceEqDiff, Nat.reduceAdd, Nat.reduceLeDiff, Nat.reduceLT, Nat.reduceSub, Nat.reduceMul, reduceCtorEq, Int.reduceEq, Int.reduceLT, Int.reduceLE, Int.reduceAdd, Int.reduceSub, Int.reduceNeg, Int.reduceToNat, undef, Value.cells, axL]; rfl) rfl rfl (by simp only [Ax.wantA, Ax.look, reduceIte, Nat.reduceEqDiff, bq_t, bq_f, Bool.not_true, Bool.not_false]; try rfl) rfl (by simp only [Ax.runK, Ax.runOps, Ax.run1, Ax.wantA, Ax.step, Ax.ev, Ax.evs, Ax.evo, Ax.evp, Ax.look, Ax.putE, Ax.keepE, Ax.argsE, Ax.extr, Ax.binV, Ax.intBin, Ax.unV, Ax.addOff, Ax.sizeN, Ax.mkV, Ax.okV, reduceIte, Nat.reduceEqDiff, Nat.reduceAdd, Nat.reduceLeDiff, Nat.reduceLT, Nat.reduceSub, Nat.reduceMul, reduceCtorEq, Int.reduceEq, Int.reduceLT, Int.reduceLE, Int.reduceAdd, Int.reduceSub, Int.reduceNeg, Int.reduceToNat, undef, Value.cells, axL]; try rfl) ?_
    refine give1_spec XL H3 i1 o (fun S4 H4 => ?_)
    rw [k3] at H4 ⊢
    repeat' (first
        | (with_reducible first | refine go_assoc ?_ (Ev.mono _ _) | refine go_skip ?_ | refine go_fin ?_ | refine go_ret ?_ | refine go_ret0 ?_ | refine go_exit ?_ | refine go_exit0 ?_ | refine go_block ?_ | refine n_then ?_ | refine x_then ?_ | refine r_then ?_ | refine n_block ?_ | refine r_block ?_ | refine x_block ?_ | refine x_block_ne ?_ (by decide))
        | (with_reducible refine is_k ?_; refine go_k _ (by simp only [Ax.runK, Ax.runOps, Ax.run1, Ax.wantA, Ax.step, Ax.ev, Ax.evs, Ax.evo, Ax.evp, Ax.look, Ax.putE, Ax.keepE, Ax.argsE, Ax.extr, Ax.binV, Ax.intBin, Ax.unV, Ax.addOff, Ax.sizeN, Ax.mkV, Ax.okV, reduceIte, Nat.reduceEqDiff, Nat.reduceAdd, Nat.reduceLeDiff, Nat.reduceLT, Nat.reduceSub, Nat.reduceMul, reduceCtorEq, Int.reduceEq, Int.reduceLT, Int.reduceLE, Int.reduceAdd, Int.reduceSub, Int.reduceNeg, Int.reduceToNat, undef, Value.cells, axL]; rfl) rfl ?_)
        | (with_reducible refine cond_t ?_ ?_; · simp only [Ax.ev, Ax.look, reduceIte, Nat.reduceEqDiff])
        | (with_reducible refine cond_f ?_ ?_; · simp only [Ax.ev, Ax.look, reduceIte, Nat.reduceEqDiff])
        | (with_reducible refine is_rp ?_; first | refine r_postR rfl ?_ | refine r_postR (by simp only [Ax.result, Ax.resVs, Ax.resV, R6, Ax.look, sizeN, mkV, Nat.reduceEqDiff, reduceIte, axL]; rfl) ?_)
        | (with_reducible refine is_np ?_; first | refine n_postR rfl ?_ | refine n_postR (by simp only [Ax.result, Ax.resVs, Ax.resV, R6, Ax.look, sizeN, mkV, Nat.reduceEqDiff, reduceIte, axL]; rfl) ?_)
        | (first | with_reducible refine is_wd ?_ | with_reducible refine dk_wd ?_); refine go_dt _ (by simp only [Ax.runDK, Ax.runDT, Ax.runDops, Ax.run1d, Ax.recs, Ax.okPair, Ax.idsE, Ax.idsV, AOp.mems, AOp.isWrite, DRec.none, axD, Ax.runK, Ax.runOps, Ax.run1, Ax.wantA, Ax.step, Ax.ev, Ax.evs, Ax.evo, Ax.evp, Ax.look, Ax.putE, Ax.keepE, Ax.argsE, Ax.extr, Ax.binV, Ax.intBin, Ax.unV, Ax.addOff, Ax.sizeN, Ax.mkV, Ax.okV, reduceIte, Nat.reduceEqDiff, Nat.reduceAdd, Nat.reduceLeDiff, Nat.reduceLT, Nat.reduceSub, Nat.reduceMul, reduceCtorEq, Int.reduceEq, Int.reduceLT, Int.reduceLE, Int.reduceAdd, Int.reduceSub, Int.reduceNeg, Int.reduceToNat, undef, Value.cells, axL]; rfl) rfl ?_
        | (with_reducible first | refine end_reg (Ev.mono _ _) ?_ | refine end_dreg (Ev.mono _ _) ?_ | refine end_cond (Ev.mono _ _) ?_ | refine end_block (Ev.mono _ _) ?_ | refine end_loop (Ev.mono _ _) ?_))
    repeat' (with_reducible first | refine go_assoc ?_ (Ev.mono _ _) | refine go_skip ?_ | refine go_block ?_ | refine end_reg (Ev.mono _ _) ?_)
    refine go_callC _ (by simp only [Ax.runC, AOp.isCall, Ax.runK, Ax.runOps, Ax.run1, Ax.wantA, Ax.step, Ax.ev, Ax.evs, Ax.evo, Ax.evp, Ax.look, Ax.putE, Ax.keepE, Ax.argsE, Ax.extr, Ax.binV, Ax.intBin, Ax.unV, Ax.addOff, Ax.sizeN, Ax.mkV, Ax.okV, reduceIte, Nat.reduceEqDiff, Nat.reduceAdd, Nat.reduceLeDiff, Nat.reduceLT, Nat.reduceSub, Nat.reduceMul, reduceCtorEq, Int.reduceEq, Int.reduceLT, Int.reduceLE, Int.reduceAdd, Int.reduceSub, Int.reduceNeg, Int.reduceToNat, undef, Value.cells, axL]; rfl) rfl rfl (by simp only [Ax.wantA, Ax.look, reduceIte, Nat.reduceEqDiff, bq_t, bq_f, Bool.not_true, Bool.not_false]; try rfl) rfl (by simp only [Ax.runK, Ax.runOps, Ax.run1, Ax.wantA, Ax.step, Ax.ev, Ax.evs, Ax.evo, Ax.evp, Ax.look, Ax.putE, Ax.keepE, Ax.argsE, Ax.extr, Ax.binV, Ax.intBin, Ax.unV, Ax.addOff, Ax.sizeN, Ax.mkV, Ax.okV, reduceIte, Nat.reduceEqDiff, Nat.reduceAdd, Nat.reduceLeDiff, Nat.reduceLT, Nat.reduceSub, Nat.reduceMul, reduceCtorEq, Int.reduceEq, Int.reduceLT, Int.reduceLE, Int.reduceAdd, Int.reduceSub, Int.reduceNeg, Int.reduceToNat, undef, Value.cells, axL]; try rfl) ?_
    refine take1_spec XL H4 i1.small o s (fun S5 H5 => ?_)
    rw [k4] at H5 ⊢
    repeat' (first
        | (with_reducible first | refine go_assoc ?_ (Ev.mono _ _) | refine go_skip ?_ | refine go_fin ?_ | refine go_ret ?_ | refine go_ret0 ?_ | refine go_exit ?_ | refine go_exit0 ?_ | refine go_block ?_ | refine n_then ?_ | refine x_then ?_ | refine r_then ?_ | refine n_block ?_ | refine r_block ?_ | refine x_block ?_ | refine x_block_ne ?_ (by decide))
        | (with_reducible refine is_k ?_; refine go_k _ (by simp only [Ax.runK, Ax.runOps, Ax.run1, Ax.wantA, Ax.step, Ax.ev, Ax.evs, Ax.evo, Ax.evp, Ax.look, Ax.putE, Ax.keepE, Ax.argsE, Ax.extr, Ax.binV, Ax.intBin, Ax.unV, Ax.addOff, Ax.sizeN, Ax.mkV, Ax.okV, reduceIte, Nat.reduceEqDiff, Nat.reduceAdd, Nat.reduceLeDiff, Nat.reduceLT, Nat.reduceSub, Nat.reduceMul, reduceCtorEq, Int.reduceEq, Int.reduceLT, Int.reduceLE, Int.reduceAdd, Int.reduceSub, Int.reduceNeg, Int.reduceToNat, undef, Value.cells, axL]; rfl) rfl ?_)
        | (with_reducible refine cond_t ?_ ?_; · simp only [Ax.ev, Ax.look, reduceIte, Nat.reduceEqDiff])
        | (with_reducible refine cond_f ?_ ?_; · simp only [Ax.ev, Ax.look, reduceIte, Nat.reduceEqDiff])
        | (with_reducible refine is_rp ?_; first | refine r_postR rfl ?_ | refine r_postR (by simp only [Ax.result, Ax.resVs, Ax.resV, R6, Ax.look, sizeN, mkV, Nat.reduceEqDiff, reduceIte, axL]; rfl) ?_)
        | (with_reducible refine is_np ?_; first | refine n_postR rfl ?_ | refine n_postR (by simp only [Ax.result, Ax.resVs, Ax.resV, R6, Ax.look, sizeN, mkV, Nat.reduceEqDiff, reduceIte, axL]; rfl) ?_)
        | (first | with_reducible refine is_wd ?_ | with_reducible refine dk_wd ?_); refine go_dt _ (by simp only [Ax.runDK, Ax.runDT, Ax.runDops, Ax.run1d, Ax.recs, Ax.okPair, Ax.idsE, Ax.idsV, AOp.mems, AOp.isWrite, DRec.none, axD, Ax.runK, Ax.runOps, Ax.run1, Ax.wantA, Ax.step, Ax.ev, Ax.evs, Ax.evo, Ax.evp, Ax.look, Ax.putE, Ax.keepE, Ax.argsE, Ax.extr, Ax.binV, Ax.intBin, Ax.unV, Ax.addOff, Ax.sizeN, Ax.mkV, Ax.okV, reduceIte, Nat.reduceEqDiff, Nat.reduceAdd, Nat.reduceLeDiff, Nat.reduceLT, Nat.reduceSub, Nat.reduceMul, reduceCtorEq, Int.reduceEq, Int.reduceLT, Int.reduceLE, Int.reduceAdd, Int.reduceSub, Int.reduceNeg, Int.reduceToNat, undef, Value.cells, axL]; rfl) rfl ?_
        | (with_reducible first | refine end_reg (Ev.mono _ _) ?_ | refine end_dreg (Ev.mono _ _) ?_ | refine end_cond (Ev.mono _ _) ?_ | refine end_block (Ev.mono _ _) ?_ | refine end_loop (Ev.mono _ _) ?_))
    repeat' (with_reducible first | refine go_assoc ?_ (Ev.mono _ _) | refine go_skip ?_ | refine go_block ?_ | refine end_reg (Ev.mono _ _) ?_)
    refine go_callC _ (by simp only [Ax.runC, AOp.isCall, Ax.runK, Ax.runOps, Ax.run1, Ax.wantA, Ax.step, Ax.ev, Ax.evs, Ax.evo, Ax.evp, Ax.look, Ax.putE, Ax.keepE, Ax.argsE, Ax.extr, Ax.binV, Ax.intBin, Ax.unV, Ax.addOff, Ax.sizeN, Ax.mkV, Ax.okV, reduceIte, Nat.reduceEqDiff, Nat.reduceAdd, Nat.reduceLeDiff, Nat.reduceLT, Nat.reduceSub, Nat.reduceMul, reduceCtorEq, Int.reduceEq, Int.reduceLT, Int.reduceLE, Int.reduceAdd, Int.reduceSub, Int.reduceNeg, Int.reduceToNat, undef, Value.cells, axL]; rfl) rfl rfl (by simp only [Ax.wantA, Ax.look, reduceIte, Nat.reduceEqDiff, bq_t, bq_f, Bool.not_true, Bool.not_false]; try rfl) rfl (by simp only [Ax.runK, Ax.runOps, Ax.run1, Ax.wantA, Ax.step, Ax.ev, Ax.evs, Ax.evo, Ax.evp, Ax.look, Ax.putE, Ax.keepE, Ax.argsE, Ax.extr, Ax.binV, Ax.intBin, Ax.unV, Ax.addOff, Ax.sizeN, Ax.mkV, Ax.okV, reduceIte, Nat.reduceEqDiff, Nat.reduceAdd, Nat.reduceLeDiff, Nat.reduceLT, Nat.reduceSub, Nat.reduceMul, reduceCtorEq, Int.reduceEq, Int.reduceLT, Int.reduceLE, Int.reduceAdd, Int.reduceSub, Int.reduceNeg, Int.reduceToNat, undef, Value.cells, axL]; try rfl) ?_
    refine take1_spec XL H5 i2.small o s (fun S6 H6 => ?_)
    rw [k5] at H6 ⊢
    repeat' (first
        | (with_reducible first | refine go_assoc ?_ (Ev.mono _ _) | refine go_skip ?_ | refine go_fin ?_ | refine go_ret ?_ | refine go_ret0 ?_ | refine go_exit ?_ | refine go_exit0 ?_ | refine go_block ?_ | refine n_then ?_ | refine x_then ?_ | refine r_then ?_ | refine n_block ?_ | refine r_block ?_ | refine x_block ?_ | refine x_block_ne ?_ (by decide))
        | (with_reducible refine is_k ?_; refine go_k _ (by simp only [Ax.runK, Ax.runOps, Ax.run1, Ax.wantA, Ax.step, Ax.ev, Ax.evs, Ax.evo, Ax.evp, Ax.look, Ax.putE, Ax.keepE, Ax.argsE, Ax.extr, Ax.binV, Ax.intBin, Ax.unV, Ax.addOff, Ax.sizeN, Ax.mkV, Ax.okV, reduceIte, Nat.reduceEqDiff, Nat.reduceAdd, Nat.reduceLeDiff, Nat.reduceLT, Nat.reduceSub, Nat.reduceMul, reduceCtorEq, Int.reduceEq, Int.reduceLT, Int.reduceLE, Int.reduceAdd, Int.reduceSub, Int.reduceNeg, Int.reduceToNat, undef, Value.cells, axL]; rfl) rfl ?_)
        | (with_reducible refine cond_t ?_ ?_; · simp only [Ax.ev, Ax.look, reduceIte, Nat.reduceEqDiff])
        | (with_reducible refine cond_f ?_ ?_; · simp only [Ax.ev, Ax.look, reduceIte, Nat.reduceEqDiff])
        | (with_reducible refine is_rp ?_; first | refine r_postR rfl ?_ | refine r_postR (by simp only [Ax.result, Ax.resVs, Ax.resV, R6, Ax.look, sizeN, mkV, Nat.reduceEqDiff, reduceIte, axL]; rfl) ?_)
        | (with_reducible refine is_np ?_; first | refine n_postR rfl ?_ | refine n_postR (by simp only [Ax.result, Ax.resVs, Ax.resV, R6, Ax.look, sizeN, mkV, Nat.reduceEqDiff, reduceIte, axL]; rfl) ?_)
        | (first | with_reducible refine is_wd ?_ | with_reducible refine dk_wd ?_); refine go_dt _ (by simp only [Ax.runDK, Ax.runDT, Ax.runDops, Ax.run1d, Ax.recs, Ax.okPair, Ax.idsE, Ax.idsV, AOp.mems, AOp.isWrite, DRec.none, axD, Ax.runK, Ax.runOps, Ax.run1, Ax.wantA, Ax.step, Ax.ev, Ax.evs, Ax.evo, Ax.evp, Ax.look, Ax.putE, Ax.keepE, Ax.argsE, Ax.extr, Ax.binV, Ax.intBin, Ax.unV, Ax.addOff, Ax.sizeN, Ax.mkV, Ax.okV, reduceIte, Nat.reduceEqDiff, Nat.reduceAdd, Nat.reduceLeDiff, Nat.reduceLT, Nat.reduceSub, Nat.reduceMul, reduceCtorEq, Int.reduceEq, Int.reduceLT, Int.reduceLE, Int.reduceAdd, Int.reduceSub, Int.reduceNeg, Int.reduceToNat, undef, Value.cells, axL]; rfl) rfl ?_
        | (with_reducible first | refine end_reg (Ev.mono _ _) ?_ | refine end_dreg (Ev.mono _ _) ?_ | refine end_cond (Ev.mono _ _) ?_ | refine end_block (Ev.mono _ _) ?_ | refine end_loop (Ev.mono _ _) ?_))
    repeat' (with_reducible first | refine go_assoc ?_ (Ev.mono _ _) | refine go_skip ?_ | refine go_block ?_ | refine end_reg (Ev.mono _ _) ?_)
    refine go_callC _ (by simp only [Ax.runC, AOp.isCall, Ax.runK, Ax.runOps, Ax.run1, Ax.wantA, Ax.step, Ax.ev, Ax.evs, Ax.evo, Ax.evp, Ax.look, Ax.putE, Ax.keepE, Ax.argsE, Ax.extr, Ax.binV, Ax.intBin, Ax.unV, Ax.addOff, Ax.sizeN, Ax.mkV, Ax.okV, reduceIte, Nat.reduceEqDiff, Nat.reduceAdd, Nat.reduceLeDiff, Nat.reduceLT, Nat.reduceSub, Nat.reduceMul, reduceCtorEq, Int.reduceEq, Int.reduceLT, Int.reduceLE, Int.reduceAdd, Int.reduceSub, Int.reduceNeg, Int.reduceToNat, undef, Value.cells, axL]; rfl) rfl rfl (by simp only [Ax.wantA, Ax.look, reduceIte, Nat.reduceEqDiff, bq_t, bq_f, Bool.not_true, Bool.not_false]; try rfl) rfl (by simp only [Ax.runK, Ax.runOps, Ax.run1, Ax.wantA, Ax.step, Ax.ev, Ax.evs, Ax.evo, Ax.evp, Ax.look, Ax.putE, Ax.keepE, Ax.argsE, Ax.extr, Ax.binV, Ax.intBin, Ax.unV, Ax.addOff, Ax.sizeN, Ax.mkV, Ax.okV, reduceIte, Nat.reduceEqDiff, Nat.reduceAdd, Nat.reduceLeDiff, Nat.reduceLT, Nat.reduceSub, Nat.reduceMul, reduceCtorEq, Int.reduceEq, Int.reduceLT, Int.reduceLE, Int.reduceAdd, Int.reduceSub, Int.reduceNeg, Int.reduceToNat, undef, Value.cells, axL]; try rfl) ?_
    refine give1_spec XL H6 i2 t (fun S7 H7 => ?_)
    rw [k6]
    repeat' (first
        | (with_reducible first | refine go_assoc ?_ (Ev.mono _ _) | refine go_skip ?_ | refine go_fin ?_ | refine go_ret ?_ | refine go_ret0 ?_ | refine go_exit ?_ | refine go_exit0 ?_ | refine go_block ?_ | refine n_then ?_ | refine x_then ?_ | refine r_then ?_ | refine n_block ?_ | refine r_block ?_ | refine x_block ?_ | refine x_block_ne ?_ (by decide))
        | (with_reducible refine is_k ?_; refine go_k _ (by simp only [Ax.runK, Ax.runOps, Ax.run1, Ax.wantA, Ax.step, Ax.ev, Ax.evs, Ax.evo, Ax.evp, Ax.look, Ax.putE, Ax.keepE, Ax.argsE, Ax.extr, Ax.binV, Ax.intBin, Ax.unV, Ax.addOff, Ax.sizeN, Ax.mkV, Ax.okV, reduceIte, Nat.reduceEqDiff, Nat.reduceAdd, Nat.reduceLeDiff, Nat.reduceLT, Nat.reduceSub, Nat.reduceMul, reduceCtorEq, Int.reduceEq, Int.reduceLT, Int.reduceLE, Int.reduceAdd, Int.reduceSub, Int.reduceNeg, Int.reduceToNat, undef, Value.cells, axL]; rfl) rfl ?_)
        | (with_reducible refine cond_t ?_ ?_; · simp only [Ax.ev, Ax.look, reduceIte, Nat.reduceEqDiff])
        | (with_reducible refine cond_f ?_ ?_; · simp only [Ax.ev, Ax.look, reduceIte, Nat.reduceEqDiff])
        | (with_reducible refine is_rp ?_; first | refine r_postR rfl ?_ | refine r_postR (by simp only [Ax.result, Ax.resVs, Ax.resV, R6, Ax.look, sizeN, mkV, Nat.reduceEqDiff, reduceIte, axL]; rfl) ?_)
        | (with_reducible refine is_np ?_; first | refine n_postR rfl ?_ | refine n_postR (by simp only [Ax.result, Ax.resVs, Ax.resV, R6, Ax.look, sizeN, mkV, Nat.reduceEqDiff, reduceIte, axL]; rfl) ?_)
        | (first | with_reducible refine is_wd ?_ | with_reducible refine dk_wd ?_); refine go_dt _ (by simp only [Ax.runDK, Ax.runDT, Ax.runDops, Ax.run1d, Ax.recs, Ax.okPair, Ax.idsE, Ax.idsV, AOp.mems, AOp.isWrite, DRec.none, axD, Ax.runK, Ax.runOps, Ax.run1, Ax.wantA, Ax.step, Ax.ev, Ax.evs, Ax.evo, Ax.evp, Ax.look, Ax.putE, Ax.keepE, Ax.argsE, Ax.extr, Ax.binV, Ax.intBin, Ax.unV, Ax.addOff, Ax.sizeN, Ax.mkV, Ax.okV, reduceIte, Nat.reduceEqDiff, Nat.reduceAdd, Nat.reduceLeDiff, Nat.reduceLT, Nat.reduceSub, Nat.reduceMul, reduceCtorEq, Int.reduceEq, Int.reduceLT, Int.reduceLE, Int.reduceAdd, Int.reduceSub, Int.reduceNeg, Int.reduceToNat, undef, Value.cells, axL]; rfl) rfl ?_
        | (with_reducible first | refine end_reg (Ev.mono _ _) ?_ | refine end_dreg (Ev.mono _ _) ?_ | refine end_cond (Ev.mono _ _) ?_ | refine end_block (Ev.mono _ _) ?_ | refine end_loop (Ev.mono _ _) ?_))
    repeat' (with_reducible first | refine go_assoc ?_ (Ev.mono _ _) | refine go_skip ?_ | refine go_block ?_ | refine end_reg (Ev.mono _ _) ?_)
    refine go_callC _ (by simp only [Ax.runC, AOp.isCall, Ax.runK, Ax.runOps, Ax.run1, Ax.wantA, Ax.step, Ax.ev, Ax.evs, Ax.evo, Ax.evp, Ax.look, Ax.putE, Ax.keepE, Ax.argsE, Ax.extr, Ax.binV, Ax.intBin, Ax.unV, Ax.addOff, Ax.sizeN, Ax.mkV, Ax.okV, reduceIte, Nat.reduceEqDiff, Nat.reduceAdd, Nat.reduceLeDiff, Nat.reduceLT, Nat.reduceSub, Nat.reduceMul, reduceCtorEq, Int.reduceEq, Int.reduceLT, Int.reduceLE, Int.reduceAdd, Int.reduceSub, Int.reduceNeg, Int.reduceToNat, undef, Value.cells, axL]; rfl) rfl rfl (by simp only [Ax.wantA, Ax.look, reduceIte, Nat.reduceEqDiff, bq_t, bq_f, Bool.not_true, Bool.not_false]; try rfl) rfl (by simp only [Ax.runK, Ax.runOps, Ax.run1, Ax.wantA, Ax.step, Ax.ev, Ax.evs, Ax.evo, Ax.evp, Ax.look, Ax.putE, Ax.keepE, Ax.argsE, Ax.extr, Ax.binV, Ax.intBin, Ax.unV, Ax.addOff, Ax.sizeN, Ax.mkV, Ax.okV, reduceIte, Nat.reduceEqDiff, Nat.reduceAdd, Nat.reduceLeDiff, Nat.reduceLT, Nat.reduceSub, Nat.reduceMul, reduceCtorEq, Int.reduceEq, Int.reduceLT, Int.reduceLE, Int.reduceAdd, Int.reduceSub, Int.reduceNeg, Int.reduceToNat, undef, Value.cells, axL]; try rfl) ?_
    refine ntake_spec XL _ _ _ ?_
    repeat' (first
        | (with_reducible first | refine go_assoc ?_ (Ev.mono _ _) | refine go_skip ?_ | refine go_fin ?_ | refine go_ret ?_ | refine go_ret0 ?_ | refine go_exit ?_ | refine go_exit0 ?_ | refine go_block ?_ | refine n_then ?_ | refine x_then ?_ | refine r_then ?_ | refine n_block ?_ | refine r_block ?_ | refine x_block ?_ | refine x_block_ne ?_ (by decide))
        | (with_reducible refine is_k ?_; refine go_k _ (by simp only [Ax.runK, Ax.runOps, Ax.run1, Ax.wantA, Ax.step, Ax.ev, Ax.evs, Ax.evo, Ax.evp, Ax.look, Ax.putE, Ax.keepE, Ax.argsE, Ax.extr, Ax.binV, Ax.intBin, Ax.unV, Ax.addOff, Ax.sizeN, Ax.mkV, Ax.okV, reduceIte, Nat.reduceEqDiff, Nat.reduceAdd, Nat.reduceLeDiff, Nat.reduceLT, Nat.reduceSub, Nat.reduceMul, reduceCtorEq, Int.reduceEq, Int.reduceLT, Int.reduceLE, Int.reduceAdd, Int.reduceSub, Int.reduceNeg, Int.reduceToNat, undef, Value.cells, axL]; rfl) rfl ?_)
        | (with_reducible refine cond_t ?_ ?_; · simp only [Ax.ev, Ax.look, reduceIte, Nat.reduceEqDiff])
        | (with_reducible refine cond_f ?_ ?_; · simp only [Ax.ev, Ax.look, reduceIte, Nat.reduceEqDiff])
        | (with_reducible refine is_rp ?_; first | refine r_postR rfl ?_ | refine r_postR (by simp only [Ax.result, Ax.resVs, Ax.resV, R6, Ax.look, sizeN, mkV, Nat.reduceEqDiff, reduceIte, axL]; rfl) ?_)
        | (with_reducible refine is_np ?_; first | refine n_postR rfl ?_ | refine n_postR (by simp only [Ax.result, Ax.resVs, Ax.resV, R6, Ax.look, sizeN, mkV, Nat.reduceEqDiff, reduceIte, axL]; rfl) ?_)
        | (first | with_reducible refine is_wd ?_ | with_reducible refine dk_wd ?_); refine go_dt _ (by simp only [Ax.runDK, Ax.runDT, Ax.runDops, Ax.run1d, Ax.recs, Ax.okPair, Ax.idsE, Ax.idsV, AOp.mems, AOp.isWrite, DRec.none, axD, Ax.runK, Ax.runOps, Ax.run1, Ax.wantA, Ax.step, Ax.ev, Ax.evs, Ax.evo, Ax.evp, Ax.look, Ax.putE, Ax.keepE, Ax.argsE, Ax.extr, Ax.binV, Ax.intBin, Ax.unV, Ax.addOff, Ax.sizeN, Ax.mkV, Ax.okV, reduceIte, Nat.reduceEqDiff, Nat.reduceAdd, Nat.reduceLeDiff, Nat.reduceLT, Nat.reduceSub, Nat.reduceMul, reduceCtorEq, Int.reduceEq, Int.reduceLT, Int.reduceLE, Int.reduceAdd, Int.reduceSub, Int.reduceNeg, Int.reduceToNat, undef, Value.cells, axL]; rfl) rfl ?_
        | (with_reducible first | refine end_reg (Ev.mono _ _) ?_ | refine end_dreg (Ev.mono _ _) ?_ | refine end_cond (Ev.mono _ _) ?_ | refine end_block (Ev.mono _ _) ?_ | refine end_loop (Ev.mono _ _) ?_))
    repeat' (with_reducible first | refine go_assoc ?_ (Ev.mono _ _) | refine go_skip ?_ | refine go_block ?_ | refine end_reg (Ev.mono _ _) ?_)
    refine go_callC _ (by simp only [Ax.runC, AOp.isCall, Ax.runK, Ax.runOps, Ax.run1, Ax.wantA, Ax.step, Ax.ev, Ax.evs, Ax.evo, Ax.evp, Ax.look, Ax.putE, Ax.keepE, Ax.argsE, Ax.extr, Ax.binV, Ax.intBin, Ax.unV, Ax.addOff, Ax.sizeN, Ax.mkV, Ax.okV, reduceIte, Nat.reduceEqDiff, Nat.reduceAdd, Nat.reduceLeDiff, Nat.reduceLT, Nat.reduceSub, Nat.reduceMul, reduceCtorEq, Int.reduceEq, Int.reduceLT, Int.reduceLE, Int.reduceAdd, Int.reduceSub, Int.reduceNeg, Int.reduceToNat, undef, Value.cells, axL]; rfl) rfl rfl (by simp only [Ax.wantA, Ax.look, reduceIte, Nat.reduceEqDiff, bq_t, bq_f, Bool.not_true, Bool.not_false]; try rfl) rfl (by simp only [Ax.runK, Ax.runOps, Ax.run1, Ax.wantA, Ax.step, Ax.ev, Ax.evs, Ax.evo, Ax.evp, Ax.look, Ax.putE, Ax.keepE, Ax.argsE, Ax.extr, Ax.binV, Ax.intBin, Ax.unV, Ax.addOff, Ax.sizeN, Ax.mkV, Ax.okV, reduceIte, Nat.reduceEqDiff, Nat.reduceAdd, Nat.reduceLeDiff, Nat.reduceLT, Nat.reduceSub, Nat.reduceMul, reduceCtorEq, Int.reduceEq, Int.reduceLT, Int.reduceLE, Int.reduceAdd, Int.reduceSub, Int.reduceNeg, Int.reduceToNat, undef, Value.cells, axL]; try rfl) ?_
    refine ngive_spec XL _ _ ?_
    repeat' (first
        | (with_reducible first | refine go_assoc ?_ (Ev.mono _ _) | refine go_skip ?_ | refine go_fin ?_ | refine go_ret ?_ | refine go_ret0 ?_ | refine go_exit ?_ | refine go_exit0 ?_ | refine go_block ?_ | refine n_then ?_ | refine x_then ?_ | refine r_then ?_ | refine n_block ?_ | refine r_block ?_ | refine x_block ?_ | refine x_block_ne ?_ (by decide))
        | (with_reducible refine is_k ?_; refine go_k _ (by simp only [Ax.runK, Ax.runOps, Ax.run1, Ax.wantA, Ax.step, Ax.ev, Ax.evs, Ax.evo, Ax.evp, Ax.look, Ax.putE, Ax.keepE, Ax.argsE, Ax.extr, Ax.binV, Ax.intBin, Ax.unV, Ax.addOff, Ax.sizeN, Ax.mkV, Ax.okV, reduceIte, Nat.reduceEqDiff, Nat.reduceAdd, Nat.reduceLeDiff, Nat.reduceLT, Nat.reduceSub, Nat.reduceMul, reduceCtorEq, Int.reduceEq, Int.reduceLT, Int.reduceLE, Int.reduceAdd, Int.reduceSub, Int.reduceNeg, Int.reduceToNat, undef, Value.cells, axL]; rfl) rfl ?_)
        | (with_reducible refine cond_t ?_ ?_; · simp only [Ax.ev, Ax.look, reduceIte, Nat.reduceEqDiff])
        | (with_reducible refine cond_f ?_ ?_; · simp only [Ax.ev, Ax.look, reduceIte, Nat.reduceEqDiff])
        | (with_reducible refine is_rp ?_; first | refine r_postR rfl ?_ | refine r_postR (by simp only [Ax.result, Ax.resVs, Ax.resV, R6, Ax.look, sizeN, mkV, Nat.reduceEqDiff, reduceIte, axL]; rfl) ?_)
        | (with_reducible refine is_np ?_; first | refine n_postR rfl ?_ | refine n_postR (by simp only [Ax.result, Ax.resVs, Ax.resV, R6, Ax.look, sizeN, mkV, Nat.reduceEqDiff, reduceIte, axL]; rfl) ?_)
        | (first | with_reducible refine is_wd ?_ | with_reducible refine dk_wd ?_); refine go_dt _ (by simp only [Ax.runDK, Ax.runDT, Ax.runDops, Ax.run1d, Ax.recs, Ax.okPair, Ax.idsE, Ax.idsV, AOp.mems, AOp.isWrite, DRec.none, axD, Ax.runK, Ax.runOps, Ax.run1, Ax.wantA, Ax.step, Ax.ev, Ax.evs, Ax.evo, Ax.evp, Ax.look, Ax.putE, Ax.keepE, Ax.argsE, Ax.extr, Ax.binV, Ax.intBin, Ax.unV, Ax.addOff, Ax.sizeN, Ax.mkV, Ax.okV, reduceIte, Nat.reduceEqDiff, Nat.reduceAdd, Nat.reduceLeDiff, Nat.reduceLT, Nat.reduceSub, Nat.reduceMul, reduceCtorEq, Int.reduceEq, Int.reduceLT, Int.reduceLE, Int.reduceAdd, Int.reduceSub, Int.reduceNeg, Int.reduceToNat, undef, Value.cells, axL]; rfl) rfl ?_
        | (with_reducible first | refine end_reg (Ev.mono _ _) ?_ | refine end_dreg (Ev.mono _ _) ?_ | refine end_cond (Ev.mono _ _) ?_ | refine end_block (Ev.mono _ _) ?_ | refine end_loop (Ev.mono _ _) ?_))
    repeat' (with_reducible first | refine go_assoc ?_ (Ev.mono _ _) | refine go_skip ?_ | refine go_block ?_ | refine end_reg (Ev.mono _ _) ?_)
    refine go_callC _ (by simp only [Ax.runC, AOp.isCall, Ax.runK, Ax.runOps, Ax.run1, Ax.wantA, Ax.step, Ax.ev, Ax.evs, Ax.evo, Ax.evp, Ax.look, Ax.putE, Ax.keepE, Ax.argsE, Ax.extr, Ax.binV, Ax.intBin, Ax.unV, Ax.addOff, Ax.sizeN, Ax.mkV, Ax.okV, reduceIte, Nat.reduceEqDiff, Nat.reduceAdd, Nat.reduceLeDiff, Nat.reduceLT, Nat.reduceSub, Nat.reduceMul, reduceCtorEq, Int.reduceEq, Int.reduceLT, Int.reduceLE, Int.reduceAdd, Int.reduceSub, Int.reduceNeg, Int.reduceToNat, undef, Value.cells, axL]; rfl) rfl rfl (by simp only [Ax.wantA, Ax.look, reduceIte, Nat.reduceEqDiff, bq_t, bq_f, Bool.not_true, Bool.not_false]; try rfl) rfl (by simp only [Ax.runK, Ax.runOps, Ax.run1, Ax.wantA, Ax.step, Ax.ev, Ax.evs, Ax.evo, Ax.evp, Ax.look, Ax.putE, Ax.keepE, Ax.argsE, Ax.extr, Ax.binV, Ax.intBin, Ax.unV, Ax.addOff, Ax.sizeN, Ax.mkV, Ax.okV, reduceIte, Nat.reduceEqDiff, Nat.reduceAdd, Nat.reduceLeDiff, Nat.reduceLT, Nat.reduceSub, Nat.reduceMul, reduceCtorEq, Int.reduceEq, Int.reduceLT, Int.reduceLE, Int.reduceAdd, Int.reduceSub, Int.reduceNeg, Int.reduceToNat, undef, Value.cells, axL]; try rfl) ?_
    refine nowner_spec XL _ ?_
    repeat' (first
        | (with_reducible first | refine go_assoc ?_ (Ev.mono _ _) | refine go_skip ?_ | refine go_fin ?_ | refine go_ret ?_ | refine go_ret0 ?_ | refine go_exit ?_ | refine go_exit0 ?_ | refine go_block ?_ | refine n_then ?_ | refine x_then ?_ | refine r_then ?_ | refine n_block ?_ | refine r_block ?_ | refine x_block ?_ | refine x_block_ne ?_ (by decide))
        | (with_reducible refine is_k ?_; refine go_k _ (by simp only [Ax.runK, Ax.runOps, Ax.run1, Ax.wantA, Ax.step, Ax.ev, Ax.evs, Ax.evo, Ax.evp, Ax.look, Ax.putE, Ax.keepE, Ax.argsE, Ax.extr, Ax.binV, Ax.intBin, Ax.unV, Ax.addOff, Ax.sizeN, Ax.mkV, Ax.okV, reduceIte, Nat.reduceEqDiff, Nat.reduceAdd, Nat.reduceLeDiff, Nat.reduceLT, Nat.reduceSub, Nat.reduceMul, reduceCtorEq, Int.reduceEq, Int.reduceLT, Int.reduceLE, Int.reduceAdd, Int.reduceSub, Int.reduceNeg, Int.reduceToNat, undef, Value.cells, axL]; rfl) rfl ?_)
        | (with_reducible refine cond_t ?_ ?_; · simp only [Ax.ev, Ax.look, reduceIte, Nat.reduceEqDiff])
        | (with_reducible refine cond_f ?_ ?_; · simp only [Ax.ev, Ax.look, reduceIte, Nat.reduceEqDiff])
        | (with_reducible refine is_rp ?_; first | refine r_postR rfl ?_ | refine r_postR (by simp only [Ax.result, Ax.resVs, Ax.resV, R6, Ax.look, sizeN, mkV, Nat.reduceEqDiff, reduceIte, axL]; rfl) ?_)
        | (with_reducible refine is_np ?_; first | refine n_postR rfl ?_ | refine n_postR (by simp only [Ax.result, Ax.resVs, Ax.resV, R6, Ax.look, sizeN, mkV, Nat.reduceEqDiff, reduceIte, axL]; rfl) ?_)
        | (first | with_reducible refine is_wd ?_ | with_reducible refine dk_wd ?_); refine go_dt _ (by simp only [Ax.runDK, Ax.runDT, Ax.runDops, Ax.run1d, Ax.recs, Ax.okPair, Ax.idsE, Ax.idsV, AOp.mems, AOp.isWrite, DRec.none, axD, Ax.runK, Ax.runOps, Ax.run1, Ax.wantA, Ax.step, Ax.ev, Ax.evs, Ax.evo, Ax.evp, Ax.look, Ax.putE, Ax.keepE, Ax.argsE, Ax.extr, Ax.binV, Ax.intBin, Ax.unV, Ax.addOff, Ax.sizeN, Ax.mkV, Ax.okV, reduceIte, Nat.reduceEqDiff, Nat.reduceAdd, Nat.reduceLeDiff, Nat.reduceLT, Nat.reduceSub, Nat.reduceMul, reduceCtorEq, Int.reduceEq, Int.reduceLT, Int.reduceLE, Int.reduceAdd, Int.reduceSub, Int.reduceNeg, Int.reduceToNat, undef, Value.cells, axL]; rfl) rfl ?_
        | (with_reducible first | refine end_reg (Ev.mono _ _) ?_ | refine end_dreg (Ev.mono _ _) ?_ | refine end_cond (Ev.mono _ _) ?_ | refine end_block (Ev.mono _ _) ?_ | refine end_loop (Ev.mono _ _) ?_))
    repeat' (with_reducible first | refine go_assoc ?_ (Ev.mono _ _) | refine go_skip ?_ | refine go_block ?_ | refine end_reg (Ev.mono _ _) ?_)
    refine go_callC _ (by simp only [Ax.runC, AOp.isCall, Ax.runK, Ax.runOps, Ax.run1, Ax.wantA, Ax.step, Ax.ev, Ax.evs, Ax.evo, Ax.evp, Ax.look, Ax.putE, Ax.keepE, Ax.argsE, Ax.extr, Ax.binV, Ax.intBin, Ax.unV, Ax.addOff, Ax.sizeN, Ax.mkV, Ax.okV, reduceIte, Nat.reduceEqDiff, Nat.reduceAdd, Nat.reduceLeDiff, Nat.reduceLT, Nat.reduceSub, Nat.reduceMul, reduceCtorEq, Int.reduceEq, Int.reduceLT, Int.reduceLE, Int.reduceAdd, Int.reduceSub, Int.reduceNeg, Int.reduceToNat, undef, Value.cells, axL]; rfl) rfl rfl (by simp only [Ax.wantA, Ax.look, reduceIte, Nat.reduceEqDiff, bq_t, bq_f, Bool.not_true, Bool.not_false]; try rfl) rfl (by simp only [Ax.runK, Ax.runOps, Ax.run1, Ax.wantA, Ax.step, Ax.ev, Ax.evs, Ax.evo, Ax.evp, Ax.look, Ax.putE, Ax.keepE, Ax.argsE, Ax.extr, Ax.binV, Ax.intBin, Ax.unV, Ax.addOff, Ax.sizeN, Ax.mkV, Ax.okV, reduceIte, Nat.reduceEqDiff, Nat.reduceAdd, Nat.reduceLeDiff, Nat.reduceLT, Nat.reduceSub, Nat.reduceMul, reduceCtorEq, Int.reduceEq, Int.reduceLT, Int.reduceLE, Int.reduceAdd, Int.reduceSub, Int.reduceNeg, Int.reduceToNat, undef, Value.cells, axL]; try rfl) ?_
    refine nlen_spec XL ?_
    repeat' (with_reducible first | refine go_assoc ?_ (Ev.mono _ _) | refine go_skip ?_ | refine go_block ?_ | refine end_reg (Ev.mono _ _) ?_)
    refine go_callC _ (by simp only [Ax.runC, AOp.isCall, Ax.runK, Ax.runOps, Ax.run1, Ax.wantA, Ax.step, Ax.ev, Ax.evs, Ax.evo, Ax.evp, Ax.look, Ax.putE, Ax.keepE, Ax.argsE, Ax.extr, Ax.binV, Ax.intBin, Ax.unV, Ax.addOff, Ax.sizeN, Ax.mkV, Ax.okV, reduceIte, Nat.reduceEqDiff, Nat.reduceAdd, Nat.reduceLeDiff, Nat.reduceLT, Nat.reduceSub, Nat.reduceMul, reduceCtorEq, Int.reduceEq, Int.reduceLT, Int.reduceLE, Int.reduceAdd, Int.reduceSub, Int.reduceNeg, Int.reduceToNat, undef, Value.cells, axL]; rfl) rfl rfl (by simp only [Ax.wantA, Ax.look, reduceIte, Nat.reduceEqDiff, bq_t, bq_f, Bool.not_true, Bool.not_false]; try rfl) rfl (by simp only [Ax.runK, Ax.runOps, Ax.run1, Ax.wantA, Ax.step, Ax.ev, Ax.evs, Ax.evo, Ax.evp, Ax.look, Ax.putE, Ax.keepE, Ax.argsE, Ax.extr, Ax.binV, Ax.intBin, Ax.unV, Ax.addOff, Ax.sizeN, Ax.mkV, Ax.okV, reduceIte, Nat.reduceEqDiff, Nat.reduceAdd, Nat.reduceLeDiff, Nat.reduceLT, Nat.reduceSub, Nat.reduceMul, reduceCtorEq, Int.reduceEq, Int.reduceLT, Int.reduceLE, Int.reduceAdd, Int.reduceSub, Int.reduceNeg, Int.reduceToNat, undef, Value.cells, axL]; try rfl) ?_
    refine nwaiting_spec XL _ ?_
    have w0 : IntKind.wrap .i64 (0 : Int) = 0 := by decide
    repeat' (with_reducible first | refine go_assoc ?_ (Ev.mono _ _) | refine go_skip ?_ | refine go_block ?_ | refine end_reg (Ev.mono _ _) ?_)
    refine go_callC _ (by simp only [Ax.runC, AOp.isCall, Ax.runK, Ax.runOps, Ax.run1, Ax.wantA, Ax.step, Ax.ev, Ax.evs, Ax.evo, Ax.evp, Ax.look, Ax.putE, Ax.keepE, Ax.argsE, Ax.extr, Ax.binV, Ax.intBin, Ax.unV, Ax.addOff, Ax.sizeN, Ax.mkV, Ax.okV, reduceIte, Nat.reduceEqDiff, Nat.reduceAdd, Nat.reduceLeDiff, Nat.reduceLT, Nat.reduceSub, Nat.reduceMul, reduceCtorEq, Int.reduceEq, Int.reduceLT, Int.reduceLE, Int.reduceAdd, Int.reduceSub, Int.reduceNeg, Int.reduceToNat, undef, Value.cells, axL, w0]; rfl) rfl rfl (by simp only [Ax.wantA, Ax.look, reduceIte, Nat.reduceEqDiff, bq_t, bq_f, Bool.not_true, Bool.not_false]; try rfl) rfl (by simp only [Ax.runK, Ax.runOps, Ax.run1, Ax.wantA, Ax.step, Ax.ev, Ax.evs, Ax.evo, Ax.evp, Ax.look, Ax.putE, Ax.keepE, Ax.argsE, Ax.extr, Ax.binV, Ax.intBin, Ax.unV, Ax.addOff, Ax.sizeN, Ax.mkV, Ax.okV, reduceIte, Nat.reduceEqDiff, Nat.reduceAdd, Nat.reduceLeDiff, Nat.reduceLT, Nat.reduceSub, Nat.reduceMul, reduceCtorEq, Int.reduceEq, Int.reduceLT, Int.reduceLE, Int.reduceAdd, Int.reduceSub, Int.reduceNeg, Int.reduceToNat, undef, Value.cells, axL, w0]; try rfl) ?_
    refine nowned_spec XL _ ?_
    repeat' (with_reducible first | refine go_assoc ?_ (Ev.mono _ _) | refine go_skip ?_ | refine go_block ?_ | refine end_reg (Ev.mono _ _) ?_)
    refine go_callC _ (by simp only [Ax.runC, AOp.isCall, Ax.runK, Ax.runOps, Ax.run1, Ax.wantA, Ax.step, Ax.ev, Ax.evs, Ax.evo, Ax.evp, Ax.look, Ax.putE, Ax.keepE, Ax.argsE, Ax.extr, Ax.binV, Ax.intBin, Ax.unV, Ax.addOff, Ax.sizeN, Ax.mkV, Ax.okV, reduceIte, Nat.reduceEqDiff, Nat.reduceAdd, Nat.reduceLeDiff, Nat.reduceLT, Nat.reduceSub, Nat.reduceMul, reduceCtorEq, Int.reduceEq, Int.reduceLT, Int.reduceLE, Int.reduceAdd, Int.reduceSub, Int.reduceNeg, Int.reduceToNat, undef, Value.cells, axL, w0]; rfl) rfl rfl (by simp only [Ax.wantA, Ax.look, reduceIte, Nat.reduceEqDiff, bq_t, bq_f, Bool.not_true, Bool.not_false]; try rfl) rfl (by simp only [Ax.runK, Ax.runOps, Ax.run1, Ax.wantA, Ax.step, Ax.ev, Ax.evs, Ax.evo, Ax.evp, Ax.look, Ax.putE, Ax.keepE, Ax.argsE, Ax.extr, Ax.binV, Ax.intBin, Ax.unV, Ax.addOff, Ax.sizeN, Ax.mkV, Ax.okV, reduceIte, Nat.reduceEqDiff, Nat.reduceAdd, Nat.reduceLeDiff, Nat.reduceLT, Nat.reduceSub, Nat.reduceMul, reduceCtorEq, Int.reduceEq, Int.reduceLT, Int.reduceLE, Int.reduceAdd, Int.reduceSub, Int.reduceNeg, Int.reduceToNat, undef, Value.cells, axL, w0]; try rfl) ?_
    refine Ev.known G_live X_live ?_
    repeat' (first
        | (with_reducible first | refine go_assoc ?_ (Ev.mono _ _) | refine go_skip ?_ | refine go_fin ?_ | refine go_ret ?_ | refine go_ret0 ?_ | refine go_exit ?_ | refine go_exit0 ?_ | refine go_block ?_ | refine n_then ?_ | refine x_then ?_ | refine r_then ?_ | refine n_block ?_ | refine r_block ?_ | refine x_block ?_ | refine x_block_ne ?_ (by decide))
        | (with_reducible refine is_k ?_; refine go_k _ (by simp only [Ax.runK, Ax.runOps, Ax.run1, Ax.wantA, Ax.step, Ax.ev, Ax.evs, Ax.evo, Ax.evp, Ax.look, Ax.putE, Ax.keepE, Ax.argsE, Ax.extr, Ax.binV, Ax.intBin, Ax.unV, Ax.addOff, Ax.sizeN, Ax.mkV, Ax.okV, reduceIte, Nat.reduceEqDiff, Nat.reduceAdd, Nat.reduceLeDiff, Nat.reduceLT, Nat.reduceSub, Nat.reduceMul, reduceCtorEq, Int.reduceEq, Int.reduceLT, Int.reduceLE, Int.reduceAdd, Int.reduceSub, Int.reduceNeg, Int.reduceToNat, undef, Value.cells, axL]; rfl) rfl ?_)
        | (with_reducible refine cond_t ?_ ?_; · simp only [Ax.ev, Ax.look, reduceIte, Nat.reduceEqDiff])
        | (with_reducible refine cond_f ?_ ?_; · simp only [Ax.ev, Ax.look, reduceIte, Nat.reduceEqDiff])
        | (with_reducible refine is_rp ?_; first | refine r_postR rfl ?_ | refine r_postR (by simp only [Ax.result, Ax.resVs, Ax.resV, R6, Ax.look, sizeN, mkV, Nat.reduceEqDiff, reduceIte, axL]; rfl) ?_)
        | (with_reducible refine is_np ?_; first | refine n_postR rfl ?_ | refine n_postR (by simp only [Ax.result, Ax.resVs, Ax.resV, R6, Ax.look, sizeN, mkV, Nat.reduceEqDiff, reduceIte, axL]; rfl) ?_)
        | (first | with_reducible refine is_wd ?_ | with_reducible refine dk_wd ?_); refine go_dt _ (by simp only [Ax.runDK, Ax.runDT, Ax.runDops, Ax.run1d, Ax.recs, Ax.okPair, Ax.idsE, Ax.idsV, AOp.mems, AOp.isWrite, DRec.none, axD, Ax.runK, Ax.runOps, Ax.run1, Ax.wantA, Ax.step, Ax.ev, Ax.evs, Ax.evo, Ax.evp, Ax.look, Ax.putE, Ax.keepE, Ax.argsE, Ax.extr, Ax.binV, Ax.intBin, Ax.unV, Ax.addOff, Ax.sizeN, Ax.mkV, Ax.okV, reduceIte, Nat.reduceEqDiff, Nat.reduceAdd, Nat.reduceLeDiff, Nat.reduceLT, Nat.reduceSub, Nat.reduceMul, reduceCtorEq, Int.reduceEq, Int.reduceLT, Int.reduceLE, Int.reduceAdd, Int.reduceSub, Int.reduceNeg, Int.reduceToNat, undef, Value.cells, axL]; rfl) rfl ?_
        | (with_reducible first | refine end_reg (Ev.mono _ _) ?_ | refine end_dreg (Ev.mono _ _) ?_ | refine end_cond (Ev.mono _ _) ?_ | refine end_block (Ev.mono _ _) ?_ | refine end_loop (Ev.mono _ _) ?_))
    rfl

end Go.Proofs.Ytgnjkkppahhhfaa

/- Law 14: rows as an order of sockets and each one's tasks; what Take and Give do to them. -/
namespace Go.Proofs.Ytgnjkkppahhhfaa
open Go.Ax
open Go.Ax.Enc (enc)

theorem idxL_split {α : Type} (p : α → Bool) (a : α) (post : List α) (ha : p a = true) : ∀ (pre : List α) (k : Int), (∀ x ∈ pre, p x = false) → idxL p (pre ++ a :: post) k = k + pre.length
  | [], k, _ => by simp [idxL, ha]
  | b :: pre, k, h => by
    have hb := h b (by simp)
    have := idxL_split p a post ha pre (k + 1) (fun x hx => h x (by simp [hx]))
    simp only [List.cons_append, idxL, hb, Bool.false_eq_true, if_false, this, List.length_cons]
    omega

theorem idxL_none {α : Type} (p : α → Bool) : ∀ (l : List α) (k : Int), (∀ x ∈ l, p x = false) → idxL p l k = -1
  | [], k, _ => rfl
  | b :: l, k, h => by
    have hb := h b (by simp)
    simp only [idxL, hb, Bool.false_eq_true, if_false]
    exact idxL_none p l (k + 1) (fun x hx => h x (by simp [hx]))

/-- Each one's tasks, one's changed. -/
def upF (f : Int → List Int) (s : Int) (l : List Int) : Int → List Int := fun s' => if s' = s then l else f s'

theorem upF_same {f : Int → List Int} {s : Int} {l : List Int} : upF f s l s = l := by simp [upF]
theorem upF_ne {f : Int → List Int} {s s' : Int} {l : List Int} (h : s' ≠ s) : upF f s l s' = f s' := by simp [upF, h]

/-- Rows, by the order of their sockets and each one's tasks. -/
structure Rep (rows : List (Int × List Int)) (o : List Int) (f : Int → List Int) : Prop where
  eq : rows = o.map fun s => (s, f s)
  nd : o.Nodup
  full : ∀ s ∈ o, f s ≠ []
  none : ∀ s, s ∉ o → f s = []

def cutO (o : List Int) (f : Int → List Int) (s : Int) : List Int := if (f s).tail = [] then o.erase s else o
def endO (o : List Int) (old : Int) : List Int := if old ∈ o then o.erase old ++ [old] else o
def addO (o : List Int) (s : Int) : List Int := if s ∈ o then o else o ++ [s]

theorem nodup_split {o : List Int} (hn : o.Nodup) {pre post : List Int} {s : Int} (h : o = pre ++ s :: post) : s ∉ pre ∧ s ∉ post ∧ (pre ++ post).Nodup := by
  subst h
  have h1 := (List.perm_middle (l₁ := pre) (a := s) (l₂ := post)).nodup_iff.1 hn
  have h2 := List.nodup_cons.1 h1
  simp only [List.mem_append, not_or] at h2
  exact ⟨h2.1.1, h2.1.2, h2.2⟩

theorem erase_split {pre post : List Int} {s : Int} (h : s ∉ pre) : (pre ++ s :: post).erase s = pre ++ post := by
  rw [List.erase_append_right _ h]; simp

section
variable {rows : List (Int × List Int)} {o : List Int} {f : Int → List Int}

theorem Rep.map1 (h : Rep rows o f) : rows.map (·.1) = o := by rw [h.eq, List.map_map]; exact List.map_id' o |>.symm ▸ by simp [Function.comp_def]

theorem Rep.upd_map {pre : List Int} {s : Int} {l : List Int} (h : s ∉ pre) : (pre.map fun s' => (s', upF f s l s')) = pre.map fun s' => (s', f s') :=
  List.map_congr_left fun x hx => by rw [upF_ne (fun e => h (by rw [← e]; exact hx))]

theorem Rep.nil : Rep [] [] (fun _ => []) := ⟨rfl, List.nodup_nil, fun _ hs => absurd hs (by simp), fun _ _ => rfl⟩

/-- One's tasks changed, and there are some. -/
theorem Rep.set {pre post : List Int} {s : Int} (h : Rep rows o f) (ho : o = pre ++ s :: post) {l : List Int} (hl : l ≠ []) : Rep (rows.set pre.length (s, l)) o (upF f s l) := by
  obtain ⟨h1, h2, _⟩ := nodup_split h.nd ho
  refine ⟨?_, h.nd, fun s' hs' => ?_, fun s' hs' => ?_⟩
  · rw [h.eq, ho, List.map_append, List.map_cons, List.map_append, List.map_cons, Rep.upd_map h1, Rep.upd_map h2, upF_same]
    rw [List.set_append_right _ _ (by simp)]
    simp
  · by_cases e : s' = s
    · subst e; rw [upF_same]; exact hl
    · rw [upF_ne e]; exact h.full s' hs'
  · have : s' ≠ s := fun e => hs' (by rw [e, ho]; simp)
    rw [upF_ne this]; exact h.none s' hs'

theorem Rep.cut {pre post : List Int} {s : Int} (h : Rep rows o f) (ho : o = pre ++ s :: post) : Rep (cutRow rows pre.length) (cutO o f s) (upF f s (f s).tail) ∧ headAt rows pre.length = (f s).headD 0 := by
  obtain ⟨h1, h2, h3⟩ := nodup_split h.nd ho
  have hg : rows.getD pre.length (0, []) = (s, f s) := by rw [h.eq, ho, List.map_append, List.map_cons]; simp
  refine ⟨?_, by rw [headAt, hg]⟩
  unfold cutRow cutO
  rw [hg]
  simp only
  by_cases ht : (f s).tail = []
  · rw [if_pos ht, if_pos ht]
    refine ⟨?_, ?_, fun s' hs' => ?_, fun s' hs' => ?_⟩
    · rw [h.eq, ho, erase_split h1, List.map_append, List.map_cons, List.map_append, Rep.upd_map h1, Rep.upd_map h2]
      rw [List.eraseIdx_append_of_length_le (by simp)]
      simp
    · rw [ho, erase_split h1]; exact h3
    · rw [ho, erase_split h1] at hs'
      have : s' ≠ s := by rintro rfl; simp [h1, h2] at hs'
      rw [upF_ne this]
      exact h.full s' (by rw [ho]; simp at hs' ⊢; rcases hs' with h | h <;> simp [h])
    · by_cases e : s' = s
      · subst e; rw [upF_same]; exact ht
      · rw [upF_ne e]
        refine h.none s' (fun hm => hs' ?_)
        exact (List.mem_erase_of_ne e).2 hm
  · rw [if_neg ht, if_neg ht]
    exact h.set ho ht

theorem Rep.last (h : Rep rows o f) (old : Int) : Rep (toEnd rows old) (endO o old) f := by
  unfold toEnd endO
  by_cases hm : old ∈ o
  · obtain ⟨pre, post, ho⟩ := List.append_of_mem hm
    obtain ⟨h1, h2, h3⟩ := nodup_split h.nd ho
    have hi : idxL (fun r : Int × List Int => decide (r.1 = old)) rows 0 = (pre.length : Nat) := by
      rw [h.eq, ho, List.map_append, List.map_cons, idxL_split]
      · simp
      · simp
      · intro x hx
        obtain ⟨s, hs, rfl⟩ := List.mem_map.1 hx
        exact decide_eq_false (by rintro rfl; exact h1 hs)
    rw [if_pos hm, hi, if_pos (by omega)]
    simp only [Int.toNat_natCast]
    refine ⟨?_, ?_, fun s' hs' => h.full s' ?_, fun s' hs' => h.none s' (fun hm' => hs' ?_)⟩
    · rw [h.eq, ho, erase_split h1, List.map_append, List.map_cons, List.eraseIdx_append_of_length_le (by simp)]
      simp
    · rw [ho, erase_split h1]
      refine List.nodup_append.2 ⟨h3, by simp, fun a ha b hb => ?_⟩
      simp only [List.mem_singleton] at hb
      subst hb
      rintro rfl
      simp [h1, h2] at ha
    · rw [ho, erase_split h1] at hs'
      rw [ho]
      simp at hs' ⊢
      rcases hs' with h | h | h <;> simp [h]
    · by_cases e : s' = old
      · subst e; simp
      · exact List.mem_append_left _ ((List.mem_erase_of_ne e).2 hm')
  · have hi : idxL (fun r : Int × List Int => decide (r.1 = old)) rows 0 = -1 := by
      refine idxL_none _ _ _ fun x hx => ?_
      rw [h.eq] at hx
      obtain ⟨s, hs, rfl⟩ := List.mem_map.1 hx
      exact decide_eq_false (by rintro rfl; exact hm hs)
    rw [if_neg hm, hi, if_neg (by omega)]
    exact h

theorem Rep.idx_mem (h : Rep rows o f) {pre post : List Int} {s : Int} (ho : o = pre ++ s :: post) : idxL (fun r : Int × List Int => decide (r.1 = s)) rows 0 = (pre.length : Nat) := by
  obtain ⟨h1, _, _⟩ := nodup_split h.nd ho
  rw [h.eq, ho, List.map_append, List.map_cons, idxL_split]
  · simp
  · simp
  · intro x hx
    obtain ⟨s', hs, rfl⟩ := List.mem_map.1 hx
    exact decide_eq_false (by rintro rfl; exact h1 hs)

theorem Rep.idx_not (h : Rep rows o f) {s : Int} (hs : s ∉ o) : idxL (fun r : Int × List Int => decide (r.1 = s)) rows 0 = -1 := by
  refine idxL_none _ _ _ fun x hx => ?_
  rw [h.eq] at hx
  obtain ⟨s', hs', rfl⟩ := List.mem_map.1 hx
  exact decide_eq_false (by rintro rfl; exact hs hs')

theorem Rep.add (h : Rep rows o f) (s t : Int) : Rep (addRow rows s t) (addO o s) (upF f s (f s ++ [t])) := by
  unfold addRow addO rowsFor rowFor
  by_cases hm : s ∈ o
  · obtain ⟨pre, post, ho⟩ := List.append_of_mem hm
    have hi := h.idx_mem ho
    rw [if_pos hm, hi, if_neg (by omega), if_neg (by omega), Int.toNat_natCast]
    have hg : rows.getD pre.length (0, []) = (s, f s) := by rw [h.eq, ho, List.map_append, List.map_cons]; simp
    rw [hg]
    exact h.set ho (by simp)
  · have hi := h.idx_not hm
    rw [if_neg hm, hi, if_pos (by omega), if_pos (by omega)]
    have hg : (rows ++ [(s, ([] : List Int))]).getD rows.length (0, []) = (s, []) := by simp
    rw [hg, h.none s hm]
    refine ⟨?_, ?_, fun s' hs' => ?_, fun s' hs' => ?_⟩
    · rw [List.set_append_right _ _ (by omega), Nat.sub_self, List.map_append, List.map_cons, List.map_nil, Rep.upd_map hm, upF_same, ← h.eq]
      rfl
    · refine List.nodup_append.2 ⟨h.nd, by simp, fun a ha b hb => ?_⟩
      simp only [List.mem_singleton] at hb
      subst hb
      rintro rfl
      exact hm ha
    · by_cases e : s' = s
      · subst e; rw [upF_same]; simp
      · rw [upF_ne e]; exact h.full s' (by simpa [e] using hs')
    · simp only [List.mem_append, List.mem_singleton, not_or] at hs'
      rw [upF_ne hs'.2]; exact h.none s' hs'.1

theorem Rep.len (h : Rep rows o f) : rows.length = o.length := by rw [h.eq, List.length_map]
end

section
variable {m : LockM} {o : List Int} {f : Int → List Int}

/-- Where the lock goes, stays. -/
theorem pass_stay (h : Rep m.rows o f) (hs : m.socket ∈ o) (hp : m.passes < 3 ∨ o.length = 1) :
    ∃ rows', passM m = { m with passes := m.passes + 1, owner := (f m.socket).headD 0, rows := rows' } ∧ Rep rows' (cutO o f m.socket) (upF f m.socket (f m.socket).tail) := by
  obtain ⟨pre, post, ho⟩ := List.append_of_mem hs
  have hi := h.idx_mem ho
  have hst : staysM m := ⟨by rw [hi]; omega, by rw [h.len]; exact hp⟩
  obtain ⟨h1, h2⟩ := h.cut ho
  refine ⟨_, ?_, h1⟩
  unfold passM
  rw [if_pos hst, ownI, hi, Int.toNat_natCast, h2]

/-- Goes to another. -/
theorem pass_away (h : Rep m.rows o f) {pre post : List Int} {to : Int} (ho : o = pre ++ to :: post) (hpre : ∀ x ∈ pre, x = m.socket) (hto : to ≠ m.socket) (hp : ¬ (m.socket ∈ o ∧ (m.passes < 3 ∨ o.length = 1))) :
    ∃ rows', passM m = { m with socket := to, passes := 0, owner := (f to).headD 0, rows := rows' } ∧ Rep rows' (endO (cutO o f to) m.socket) (upF f to (f to).tail) := by
  have hi : idxL (fun r : Int × List Int => decide (¬ r.1 = m.socket)) m.rows 0 = (pre.length : Nat) := by
    rw [h.eq, ho, List.map_append, List.map_cons, idxL_split]
    · simp
    · simpa using hto
    · intro x hx
      obtain ⟨s', hs, rfl⟩ := List.mem_map.1 hx
      exact decide_eq_false (by simpa using hpre s' hs)
  have hst : ¬ staysM m := by
    rintro ⟨a, b⟩
    refine hp ⟨?_, by rw [h.len] at b; exact b⟩
    by_cases hm : m.socket ∈ o
    · exact hm
    · rw [h.idx_not hm] at a; omega
  obtain ⟨h1, h2⟩ := h.cut ho
  have hg : m.rows.getD pre.length (0, []) = (to, f to) := by rw [h.eq, ho, List.map_append, List.map_cons]; simp
  refine ⟨_, ?_, h1.last m.socket⟩
  unfold passM
  rw [if_neg hst]
  unfold awayM
  simp only [awayI, hi, Int.toNat_natCast, h2, hg]

/-- Where there is another, there is a first other. -/
theorem first_other : ∀ (o : List Int) (c : Int), (∃ x ∈ o, x ≠ c) → ∃ pre to post, o = pre ++ to :: post ∧ (∀ x ∈ pre, x = c) ∧ to ≠ c
  | [], c, h => by obtain ⟨x, hx, _⟩ := h; cases hx
  | a :: o, c, h => by
    by_cases e : a = c
    · obtain ⟨x, hx, hn⟩ := h
      have : ∃ x ∈ o, x ≠ c := by
        rcases List.mem_cons.1 hx with rfl | hx
        · exact absurd e hn
        · exact ⟨x, hx, hn⟩
      obtain ⟨pre, to, post, h1, h2, h3⟩ := first_other o c this
      exact ⟨a :: pre, to, post, by rw [h1]; rfl, fun x hx => (List.mem_cons.1 hx).elim (fun k => k.trans e) (h2 x), h3⟩
    · exact ⟨[], a, o, rfl, fun _ hx => absurd hx (by simp), e⟩

/-- The two ways of a hand-off. -/
theorem pass_cases (h : Rep m.rows o f) (hne : m.rows ≠ []) :
    (m.socket ∈ o ∧ (m.passes < 3 ∨ o.length = 1)) ∨ (¬ (m.socket ∈ o ∧ (m.passes < 3 ∨ o.length = 1)) ∧ ∃ pre to post, o = pre ++ to :: post ∧ (∀ x ∈ pre, x = m.socket) ∧ to ≠ m.socket) := by
  by_cases hc : m.socket ∈ o ∧ (m.passes < 3 ∨ o.length = 1)
  · exact .inl hc
  · refine .inr ⟨hc, first_other o m.socket ?_⟩
    cases ho : o with
    | nil => exact absurd (by rw [h.eq, ho]; rfl) hne
    | cons a o' =>
      by_cases ha : a = m.socket
      · cases ho' : o' with
        | nil => exact absurd ⟨by rw [ho, ha]; simp, .inr (by rw [ho, ho']; rfl)⟩ hc
        | cons b o'' =>
          have := h.nd
          rw [ho, ho'] at this
          refine ⟨b, by simp, ?_⟩
          rintro e
          simp [ha, e] at this
      · exact ⟨a, by simp, ha⟩
end

end Go.Proofs.Ytgnjkkppahhhfaa

/- Law 14: bounds that hold behind so many calls. -/
namespace Go.Proofs.Ytgnjkkppahhhfaa
open Go.Ax
open Go.Ax.Enc (enc)

def tot (o : List Int) (f : Int → List Int) : Nat := (o.map fun s => (f s).length).sum

section
variable {rows : List (Int × List Int)} {o : List Int} {f : Int → List Int}

theorem tot_split {pre post : List Int} {s : Int} : tot (pre ++ s :: post) f = tot (pre ++ post) f + (f s).length := by
  simp only [tot, List.map_append, List.map_cons, List.sum_append, List.sum_cons]; omega

theorem tot_upd {s : Int} {l : List Int} (h : s ∉ o) : tot o (upF f s l) = tot o f := by
  unfold tot
  congr 1
  exact List.map_congr_left fun x hx => by rw [upF_ne (fun e => h (by rw [← e]; exact hx))]

theorem tot_mem {s : Int} (h : s ∈ o) : (f s).length ≤ tot o f := by
  obtain ⟨pre, post, rfl⟩ := List.append_of_mem h
  rw [tot_split]; omega

theorem tot_len : ∀ (o : List Int), (∀ s ∈ o, f s ≠ []) → o.length ≤ tot o f
  | [], _ => Nat.zero_le _
  | a :: o, h => by
    have h1 := tot_len o (fun s hs => h s (by simp [hs]))
    have h2 : 0 < (f a).length := List.length_pos_iff.2 (h a (by simp))
    simp only [tot, List.map_cons, List.sum_cons, List.length_cons] at h1 ⊢
    omega

theorem tot_add {s : Int} (hf : s ∉ o → f s = []) (hn : o.Nodup) (t : Int) : tot (addO o s) (upF f s (f s ++ [t])) = tot o f + 1 := by
  unfold addO
  by_cases hm : s ∈ o
  · obtain ⟨pre, post, rfl⟩ := List.append_of_mem hm
    obtain ⟨h1, h2, _⟩ := nodup_split hn rfl
    rw [if_pos hm, tot_split, tot_split, upF_same, tot_upd (by simp [h1, h2])]
    simp; omega
  · rw [if_neg hm]
    have := tot_split (pre := o) (post := []) (s := s) (f := upF f s (f s ++ [t]))
    rw [List.append_nil] at this
    rw [this, upF_same, tot_upd hm, hf hm]
    simp

theorem tot_cut {s : Int} (hm : s ∈ o) (hn : o.Nodup) (hf : f s ≠ []) : tot (cutO o f s) (upF f s (f s).tail) + 1 = tot o f := by
  obtain ⟨pre, post, rfl⟩ := List.append_of_mem hm
  obtain ⟨h1, h2, _⟩ := nodup_split hn rfl
  have hl : (f s).length = (f s).tail.length + 1 := by
    cases hh : f s with
    | nil => exact absurd hh hf
    | cons a l => rfl
  unfold cutO
  by_cases ht : (f s).tail = []
  · rw [if_pos ht, erase_split h1, tot_upd (by simp [h1, h2]), tot_split, hl, ht]; rfl
  · rw [if_neg ht, tot_split, tot_split, upF_same, tot_upd (by simp [h1, h2]), hl]; omega

theorem tot_end (old : Int) (hn : o.Nodup) : tot (endO o old) f = tot o f := by
  unfold endO
  by_cases hm : old ∈ o
  · obtain ⟨pre, post, rfl⟩ := List.append_of_mem hm
    obtain ⟨h1, h2, _⟩ := nodup_split hn rfl
    rw [if_pos hm, erase_split h1]
    have e := tot_split (pre := pre ++ post) (post := []) (s := old) (f := f)
    rw [List.append_nil] at e
    rw [e, tot_split]
  · rw [if_neg hm]

theorem Rep.wait (h : Rep rows o f) : rows.flatMap (·.2) = o.flatMap f := by
  rw [h.eq, List.flatMap_map]

theorem flat_len : ∀ o : List Int, (o.flatMap f).length = tot o f
  | [] => rfl
  | a :: o => by
    have := flat_len o
    simp only [List.flatMap_cons, List.length_append, this, tot, List.map_cons, List.sum_cons]
end

/-- A lock behind so many calls. -/
structure LkB (k : Nat) (m : LockM) (o : List Int) (f : Int → List Int) : Prop where
  rep : Rep m.rows o f
  free : m.held = false → o = []
  cnt : tot o f ≤ k
  ps0 : 0 ≤ m.passes
  psk : m.passes ≤ k

theorem LkB.inv {k : Nat} {m : LockM} {o : List Int} {f : Int → List Int} (h : LkB k m o f) (hk : k < 1000000) : LkInv m := by
  have hl := tot_len (f := f) o h.rep.full
  have h1 := h.cnt
  refine ⟨⟨by rw [h.rep.len]; omega, fun r hr => ?_⟩, fun r hr => ?_, ?_, ?_⟩
  · rw [h.rep.eq] at hr
    obtain ⟨s, hs, rfl⟩ := List.mem_map.1 hr
    have := tot_mem (f := f) hs
    show (f s).length < _
    omega
  · rw [h.rep.eq] at hr
    obtain ⟨s, hs, rfl⟩ := List.mem_map.1 hr
    exact h.rep.full s hs
  · rw [h.rep.map1]; exact h.rep.nd
  · have := h.ps0; have := h.psk; unfold I64; omega

theorem LkB.waitLen {k : Nat} {m : LockM} {o : List Int} {f : Int → List Int} (h : LkB k m o f) : (waitL m).length ≤ k := by
  unfold waitL
  rw [h.rep.wait, flat_len]
  exact h.cnt

theorem LkB.more {k k' : Nat} {m : LockM} {o : List Int} {f : Int → List Int} (h : LkB k m o f) (hk : k ≤ k') : LkB k' m o f :=
  ⟨h.rep, h.free, by have := h.cnt; omega, h.ps0, by have := h.psk; omega⟩

theorem LkB.zero : LkB 0 lock0 [] (fun _ => []) := ⟨Rep.nil, fun _ => rfl, Nat.le_refl _, Int.le_refl _, Int.le_refl _⟩

theorem LkB.waits {k : Nat} {m : LockM} {o : List Int} {f : Int → List Int} (h : LkB k m o f) (t : Int) : waitsM m t = true ↔ ∃ s ∈ o, t ∈ f s := by
  unfold waitsM
  rw [h.rep.eq]
  simp only [List.any_map, List.any_eq_true, Function.comp, decide_eq_true_eq]
  constructor
  · rintro ⟨s, hs, t', ht', rfl⟩; exact ⟨s, hs, ht'⟩
  · rintro ⟨s, hs, ht⟩; exact ⟨s, hs, t, ht, rfl⟩

/-- What becomes of a lock that is taken. -/
theorem LkB.take {k : Nat} {m : LockM} {o : List Int} {f : Int → List Int} (h : LkB k m o f) (t s : Int) :
    (∃ e, e ≠ 0 ∧ takeM m t s = (m, false, e)) ∨
    (m.held = false ∧ waitsM m t = false ∧ takeM m t s = ({ m with held := true, owner := t, socket := s, passes := 0 }, true, 0) ∧ LkB (k + 1) (takeM m t s).1 o f) ∨
    (m.held = true ∧ waitsM m t = false ∧ m.owner ≠ t ∧ takeM m t s = ({ m with rows := addRow m.rows s t }, false, 0) ∧ LkB (k + 1) (takeM m t s).1 (addO o s) (upF f s (f s ++ [t]))) := by
  unfold takeM
  by_cases h1 : t < 0 ∨ s < 0
  · exact .inl ⟨1, by omega, by rw [if_pos h1]⟩
  by_cases h2 : m.held = true ∧ m.owner = t
  · exact .inl ⟨8, by omega, by rw [if_neg h1, if_pos h2]⟩
  by_cases h3 : waitsM m t = true
  · exact .inl ⟨9, by omega, by rw [if_neg h1, if_neg h2, if_pos h3]⟩
  have h3' : waitsM m t = false := by simpa using h3
  by_cases h4 : m.held = false
  · refine .inr (.inl ⟨h4, h3', by rw [if_neg h1, if_neg h2, if_neg h3, if_pos h4], ?_⟩)
    rw [if_neg h1, if_neg h2, if_neg h3, if_pos h4]
    have := h.cnt
    exact ⟨h.rep, fun e => absurd e (by simp), by omega, Int.le_refl _, by simp; omega⟩
  · have h4' : m.held = true := by simpa using h4
    refine .inr (.inr ⟨h4', h3', fun e => h2 ⟨h4', e⟩, by rw [if_neg h1, if_neg h2, if_neg h3, if_neg h4], ?_⟩)
    rw [if_neg h1, if_neg h2, if_neg h3, if_neg h4]
    have := h.cnt
    have := h.psk
    exact ⟨h.rep.add s t, fun e => absurd e (by simp [h4']), by rw [tot_add (h.rep.none s) h.rep.nd]; omega, h.ps0, by simp; omega⟩

theorem endO_mem {o : List Int} {x old : Int} : x ∈ endO o old ↔ x ∈ o := by
  unfold endO
  split
  · rename_i hm
    by_cases e : x = old
    · subst e; simp [hm]
    · simp [List.mem_erase_of_ne e, e]
  · exact Iff.rfl

/-- What becomes of a lock that is given. -/
theorem LkB.give {k : Nat} {m : LockM} {o : List Int} {f : Int → List Int} (h : LkB k m o f) (t : Int) :
    ((m.held = false ∨ m.owner ≠ t) ∧ giveM m t = (m, 0, false, 8)) ∨
    (m.held = true ∧ m.owner = t ∧ o = [] ∧ giveM m t = (lock0, 0, false, 0) ∧ LkB (k + 1) (giveM m t).1 [] (fun _ => [])) ∨
    (m.held = true ∧ m.owner = t ∧ ∃ to t' ts, to ∈ o ∧ f to = t' :: ts ∧ ∃ rows' so ps,
      giveM m t = ({ m with socket := so, passes := ps, owner := t', rows := rows' }, t', true, 0) ∧
      ((to = m.socket ∧ so = m.socket ∧ ps = m.passes + 1 ∧ (m.passes < 3 ∨ o.length = 1) ∧ LkB (k + 1) (giveM m t).1 (cutO o f to) (upF f to ts)) ∨
       (to ≠ m.socket ∧ so = to ∧ ps = 0 ∧ ¬ (m.socket ∈ o ∧ (m.passes < 3 ∨ o.length = 1)) ∧ (∃ pre post, o = pre ++ to :: post ∧ ∀ x ∈ pre, x = m.socket) ∧ LkB (k + 1) (giveM m t).1 (endO (cutO o f to) m.socket) (upF f to ts)))) := by
  by_cases h1 : m.held = false ∨ ¬ m.owner = t
  · exact .inl ⟨h1, by unfold giveM; rw [if_pos h1]⟩
  have hh : m.held = true := by
    cases hh : m.held with
    | true => rfl
    | false => exact absurd (.inl hh) h1
  have ht : m.owner = t := by
    by_cases e : m.owner = t
    · exact e
    · exact absurd (.inr e) h1
  by_cases h2 : m.rows = []
  · have ho : o = [] := by have := h.rep.len; rw [h2] at this; exact List.eq_nil_of_length_eq_zero this.symm
    have e : giveM m t = (lock0, 0, false, 0) := by unfold giveM; rw [if_neg h1, if_pos h2]; rfl
    exact .inr (.inl ⟨hh, ht, ho, e, by rw [e]; exact LkB.zero.more (by omega)⟩)
  · refine .inr (.inr ⟨hh, ht, ?_⟩)
    have e : giveM m t = (passM m, (passM m).owner, true, 0) := by unfold giveM; rw [if_neg h1, if_neg h2]
    rcases pass_cases h.rep h2 with ⟨hs, hp⟩ | ⟨hn, pre, to, post, ho, hpre, hto⟩
    · obtain ⟨rows', e1, e2⟩ := pass_stay h.rep hs hp
      have hne := h.rep.full _ hs
      cases hf : f m.socket with
      | nil => exact absurd hf hne
      | cons t' ts =>
        rw [hf] at e1 e2
        simp only [List.headD_cons, List.tail_cons] at e1 e2
        refine ⟨m.socket, t', ts, hs, hf, rows', m.socket, m.passes + 1, by rw [e, e1], .inl ⟨rfl, rfl, rfl, hp, ?_⟩⟩
        have hc := tot_cut hs h.rep.nd hne
        rw [hf] at hc
        simp only [List.tail_cons] at hc
        have := h.cnt
        have := h.psk
        have := h.ps0
        rw [e, e1]
        exact ⟨e2, fun k => absurd k (by simp [hh]), by omega, by simp; omega, by simp; omega⟩
    · obtain ⟨rows', e1, e2⟩ := pass_away h.rep ho hpre hto hn
      have hmem : to ∈ o := by rw [ho]; simp
      have hne := h.rep.full _ hmem
      cases hf : f to with
      | nil => exact absurd hf hne
      | cons t' ts =>
        rw [hf] at e1 e2
        simp only [List.headD_cons, List.tail_cons] at e1 e2
        refine ⟨to, t', ts, hmem, hf, rows', to, 0, by rw [e, e1], .inr ⟨hto, rfl, rfl, hn, ⟨pre, post, ho, hpre⟩, ?_⟩⟩
        have hc := tot_cut hmem h.rep.nd hne
        rw [hf] at hc
        simp only [List.tail_cons] at hc
        have := h.cnt
        have hnd : (cutO o f to).Nodup := by
          unfold cutO
          split
          · exact h.rep.nd.erase to
          · exact h.rep.nd
        rw [e, e1]
        refine ⟨e2, fun k => absurd k (by simp [hh]), ?_, Int.le_refl _, by simp; omega⟩
        rw [tot_end _ hnd]; omega

end Go.Proofs.Ytgnjkkppahhhfaa

/- Law 14: CohortBudget. -/
namespace Go.Proofs.Ytgnjkkppahhhfaa
open Go.Ax
open Go.Ax.Enc (enc)

/-- What is done. -/
structure Op where
  kind : Int
  lock : Int
  task : Int
  socket : Int

instance : Enc Op 4 := ⟨fun o => [.int .u64 o.kind, .int .i64 o.lock, .int .i64 o.task, .int .i64 o.socket], fun _ => rfl⟩
theorem enc_op (o : Op) : enc o = [.int .u64 o.kind, .int .i64 o.lock, .int .i64 o.task, .int .i64 o.socket] := rfl

def op_ks : List FK := [.int .u64, .int .i64, .int .i64, .int .i64]

theorem fit_op (cs : List Value) (h : Fits op_ks cs) : ∃ o : Op, cs = enc o ∧ 0 ≤ o.kind ∧ o.kind < 2 ^ 64 := by
  obtain ⟨v1, vs1, rfl, ⟨n1, rfl, w1⟩, h1⟩ := h.cons_inv
  obtain ⟨v2, vs2, rfl, ⟨n2, rfl, w2⟩, h2⟩ := h1.cons_inv
  obtain ⟨v3, vs3, rfl, ⟨n3, rfl, w3⟩, h3⟩ := h2.cons_inv
  obtain ⟨v4, vs4, rfl, ⟨n4, rfl, w4⟩, h4⟩ := h3.cons_inv
  have := h4.nil_inv
  subst this
  refine ⟨⟨n1, n2, n3, n4⟩, rfl, ?_⟩
  simp [Lit.wf, IntKind.min, IntKind.max, IntKind.signed, IntKind.bits] at w1
  simp only
  omega

/-- Each one that waits, its socket is known. -/
def Socks (o : List Int) (f : Int → List Int) (mp : List (Int × Int)) : Prop := ∀ s ∈ o, ∀ t ∈ f s, mp.lookup t = some s

theorem Socks.add {k : Nat} {m : LockM} {o : List Int} {f : Int → List Int} {mp : List (Int × Int)} (h : Socks o f mp) (hB : LkB k m o f) {t s : Int} (hw : waitsM m t = false) : Socks (addO o s) (upF f s (f s ++ [t])) (ups mp t s) := by
  have hno : ∀ s' ∈ o, ∀ t' ∈ f s', t' ≠ t := fun s' hs' t' ht' e => by
    subst e
    have := (hB.waits t').2 ⟨s', hs', ht'⟩
    rw [hw] at this; cases this
  intro s' hs' t' ht'
  rw [lookup_ups]
  by_cases e : t' = t
  · subst e
    rw [if_pos rfl]
    by_cases e2 : s' = s
    · rw [e2]
    · rw [upF_ne e2] at ht'
      have hm : s' ∈ o := by
        unfold addO at hs'
        split at hs'
        · exact hs'
        · simpa [e2] using hs'
      exact absurd rfl (hno s' hm t' ht')
  · rw [if_neg e]
    by_cases e2 : s' = s
    · subst e2
      rw [upF_same] at ht'
      have ht'' : t' ∈ f s' := by simpa [e] using ht'
      have hm : s' ∈ o := by
        by_cases hm : s' ∈ o
        · exact hm
        · rw [hB.rep.none s' hm] at ht''; cases ht''
      exact h s' hm t' ht''
    · rw [upF_ne e2] at ht'
      have hm : s' ∈ o := by
        unfold addO at hs'
        split at hs'
        · exact hs'
        · simpa [e2] using hs'
      exact h s' hm t' ht'

theorem min_ex (x y : Int) : ∃ z, minV (.int .i64 x) (.int .i64 y) = some (.int .i64 z) := ⟨_, rfl⟩
theorem max_ex (x y : Int) : ∃ z, maxV (.int .i64 x) (.int .i64 y) = some (.int .i64 z) := ⟨_, rfl⟩

set_option maxHeartbeats 4000000 in
theorem cohortBudget_law {R : Nat → Option (List Value)} {v : Value} {ops : List Op} (hin : RIn R v ops) (hk : ∀ x ∈ ops, 0 ≤ x.kind ∧ x.kind < 2 ^ 64) : Law G XL 4 [v] R := by
  intro F S H
  refine Ev.fnR (rs := R4) (c := A4) rfl ?_; unfold A4
  obtain ⟨l, hl⟩ : ∃ l, l = ops.take 80 := ⟨_, rfl⟩
  obtain ⟨v', e1, hv'⟩ := hin.slice H (lo := 0) (hi := l.length) (Nat.zero_le _) (by rw [hl]; simp; omega) none (some (.int .i64 l.length)) (.inl ⟨rfl, rfl⟩) (.inr ⟨_, rfl⟩)
  have hl' : ops.take l.length = l := by rw [hl]; simp [List.take_take]
  rw [List.drop_zero, Nat.sub_zero, hl'] at hv'
  have hmin : minV (.int .i64 ops.length) (.int .i64 80) = some (.int .i64 l.length) := by
    simp only [minV, hl, List.length_take]
    congr 2
    split <;> omega
  have hl80 : l.length ≤ 80 := by rw [hl]; simp; omega
  have hkl' : ∀ x ∈ l, 0 ≤ x.kind ∧ x.kind < 2 ^ 64 := fun x hx => hk x (by rw [hl] at hx; exact List.mem_of_mem_take hx)
  clear hl hl' hk
  have hvl := hin.len H
  have hvl' := hv'.len H
  repeat' (first
      | (with_reducible first | refine go_assoc ?_ (Ev.mono _ _) | refine go_skip ?_ | refine go_fin ?_ | refine go_ret ?_ | refine go_ret0 ?_ | refine go_exit ?_ | refine go_exit0 ?_ | refine go_block ?_ | refine n_then ?_ | refine x_then ?_ | refine r_then ?_ | refine n_block ?_ | refine r_block ?_ | refine x_block ?_ | refine x_block_ne ?_ (by decide))
      | (with_reducible refine is_k ?_; refine go_k _ (by simp only [Ax.runK, Ax.runOps, Ax.run1, Ax.wantA, Ax.step, Ax.ev, Ax.evs, Ax.evo, Ax.evp, Ax.look, Ax.putE, Ax.keepE, Ax.argsE, Ax.extr, Ax.binV, Ax.intBin, Ax.unV, Ax.addOff, Ax.sizeN, Ax.mkV, Ax.okV, reduceIte, Nat.reduceEqDiff, Nat.reduceAdd, Nat.reduceLeDiff, Nat.reduceLT, Nat.reduceSub, Nat.reduceMul, reduceCtorEq, Int.reduceEq, Int.reduceLT, Int.reduceLE, Int.reduceAdd, Int.reduceSub, Int.reduceNeg, Int.reduceToNat, undef, Value.cells, axL, hvl, hmin, e1, hvl']; rfl) rfl ?_)
      | (with_reducible refine cond_t ?_ ?_; · simp only [Ax.ev, Ax.look, reduceIte, Nat.reduceEqDiff])
      | (with_reducible refine cond_f ?_ ?_; · simp only [Ax.ev, Ax.look, reduceIte, Nat.reduceEqDiff])
      | (with_reducible refine is_rp ?_; first | refine r_postR rfl ?_ | refine r_postR (by simp only [Ax.result, Ax.resVs, Ax.resV, R4, Ax.look, sizeN, mkV, Nat.reduceEqDiff, reduceIte, axL, hvl, hmin, e1, hvl']; rfl) ?_)
      | (with_reducible refine is_np ?_; first | refine n_postR rfl ?_ | refine n_postR (by simp only [Ax.result, Ax.resVs, Ax.resV, R4, Ax.look, sizeN, mkV, Nat.reduceEqDiff, reduceIte, axL, hvl, hmin, e1, hvl']; rfl) ?_)
      | (first | with_reducible refine is_wd ?_ | with_reducible refine dk_wd ?_); refine go_dt _ (by simp only [Ax.runDK, Ax.runDT, Ax.runDops, Ax.run1d, Ax.recs, Ax.okPair, Ax.idsE, Ax.idsV, AOp.mems, AOp.isWrite, DRec.none, axD, Ax.runK, Ax.runOps, Ax.run1, Ax.wantA, Ax.step, Ax.ev, Ax.evs, Ax.evo, Ax.evp, Ax.look, Ax.putE, Ax.keepE, Ax.argsE, Ax.extr, Ax.binV, Ax.intBin, Ax.unV, Ax.addOff, Ax.sizeN, Ax.mkV, Ax.okV, reduceIte, Nat.reduceEqDiff, Nat.reduceAdd, Nat.reduceLeDiff, Nat.reduceLT, Nat.reduceSub, Nat.reduceMul, reduceCtorEq, Int.reduceEq, Int.reduceLT, Int.reduceLE, Int.reduceAdd, Int.reduceSub, Int.reduceNeg, Int.reduceToNat, undef, Value.cells, axL, hvl, hmin, e1, hvl']; rfl) rfl ?_
      | (with_reducible first | refine end_reg (Ev.mono _ _) ?_ | refine end_dreg (Ev.mono _ _) ?_ | refine end_cond (Ev.mono _ _) ?_ | refine end_block (Ev.mono _ _) ?_ | refine end_loop (Ev.mono _ _) ?_))
  repeat' (with_reducible first | refine go_assoc ?_ (Ev.mono _ _) | refine go_skip ?_ | refine go_block ?_ | refine end_reg (Ev.mono _ _) ?_)
  refine go_callC _ (by simp only [Ax.runC, AOp.isCall, Ax.runK, Ax.runOps, Ax.run1, Ax.wantA, Ax.step, Ax.ev, Ax.evs, Ax.evo, Ax.evp, Ax.look, Ax.putE, Ax.keepE, Ax.argsE, Ax.extr, Ax.binV, Ax.intBin, Ax.unV, Ax.addOff, Ax.sizeN, Ax.mkV, Ax.okV, reduceIte, Nat.reduceEqDiff, Nat.reduceAdd, Nat.reduceLeDiff, Nat.reduceLT, Nat.reduceSub, Nat.reduceMul, reduceCtorEq, Int.reduceEq, Int.reduceLT, Int.reduceLE, Int.reduceAdd, Int.reduceSub, Int.reduceNeg, Int.reduceToNat, undef, Value.cells, axL]; rfl) rfl rfl (by simp only [Ax.wantA, Ax.look, reduceIte, Nat.reduceEqDiff, bq_t, bq_f, Bool.not_true, Bool.not_false]; try rfl) rfl (by simp only [Ax.runK, Ax.runOps, Ax.run1, Ax.wantA, Ax.step, Ax.ev, Ax.evs, Ax.evo, Ax.evp, Ax.look, Ax.putE, Ax.keepE, Ax.argsE, Ax.extr, Ax.binV, Ax.intBin, Ax.unV, Ax.addOff, Ax.sizeN, Ax.mkV, Ax.okV, reduceIte, Nat.reduceEqDiff, Nat.reduceAdd, Nat.reduceLeDiff, Nat.reduceLT, Nat.reduceSub, Nat.reduceMul, reduceCtorEq, Int.reduceEq, Int.reduceLT, Int.reduceLE, Int.reduceAdd, Int.reduceSub, Int.reduceNeg, Int.reduceToNat, undef, Value.cells, axL]; try rfl) ?_
  refine new_spec XL H 1 (fun L S1 H1 => ?_)
  have hc : List.replicate (lockCount 1) lock0 = [lock0] := rfl
  rw [hc] at H1
  have H2 := MapI.nil H1 (Value.int .i64)
  repeat' (first
      | (with_reducible first | refine go_assoc ?_ (Ev.mono _ _) | refine go_skip ?_ | refine go_fin ?_ | refine go_ret ?_ | refine go_ret0 ?_ | refine go_exit ?_ | refine go_exit0 ?_ | refine go_block ?_ | refine n_then ?_ | refine x_then ?_ | refine r_then ?_ | refine n_block ?_ | refine r_block ?_ | refine x_block ?_ | refine x_block_ne ?_ (by decide))
      | (with_reducible refine is_k ?_; refine go_k _ (by simp only [Ax.runK, Ax.runOps, Ax.run1, Ax.wantA, Ax.step, Ax.ev, Ax.evs, Ax.evo, Ax.evp, Ax.look, Ax.putE, Ax.keepE, Ax.argsE, Ax.extr, Ax.binV, Ax.intBin, Ax.unV, Ax.addOff, Ax.sizeN, Ax.mkV, Ax.okV, reduceIte, Nat.reduceEqDiff, Nat.reduceAdd, Nat.reduceLeDiff, Nat.reduceLT, Nat.reduceSub, Nat.reduceMul, reduceCtorEq, Int.reduceEq, Int.reduceLT, Int.reduceLE, Int.reduceAdd, Int.reduceSub, Int.reduceNeg, Int.reduceToNat, undef, Value.cells, axL, hvl']; rfl) rfl ?_)
      | (with_reducible refine cond_t ?_ ?_; · simp only [Ax.ev, Ax.look, reduceIte, Nat.reduceEqDiff])
      | (with_reducible refine cond_f ?_ ?_; · simp only [Ax.ev, Ax.look, reduceIte, Nat.reduceEqDiff])
      | (with_reducible refine is_rp ?_; first | refine r_postR rfl ?_ | refine r_postR (by simp only [Ax.result, Ax.resVs, Ax.resV, R4, Ax.look, sizeN, mkV, Nat.reduceEqDiff, reduceIte, axL, hvl']; rfl) ?_)
      | (with_reducible refine is_np ?_; first | refine n_postR rfl ?_ | refine n_postR (by simp only [Ax.result, Ax.resVs, Ax.resV, R4, Ax.look, sizeN, mkV, Nat.reduceEqDiff, reduceIte, axL, hvl']; rfl) ?_)
      | (first | with_reducible refine is_wd ?_ | with_reducible refine dk_wd ?_); refine go_dt _ (by simp only [Ax.runDK, Ax.runDT, Ax.runDops, Ax.run1d, Ax.recs, Ax.okPair, Ax.idsE, Ax.idsV, AOp.mems, AOp.isWrite, DRec.none, axD, Ax.runK, Ax.runOps, Ax.run1, Ax.wantA, Ax.step, Ax.ev, Ax.evs, Ax.evo, Ax.evp, Ax.look, Ax.putE, Ax.keepE, Ax.argsE, Ax.extr, Ax.binV, Ax.intBin, Ax.unV, Ax.addOff, Ax.sizeN, Ax.mkV, Ax.okV, reduceIte, Nat.reduceEqDiff, Nat.reduceAdd, Nat.reduceLeDiff, Nat.reduceLT, Nat.reduceSub, Nat.reduceMul, reduceCtorEq, Int.reduceEq, Int.reduceLT, Int.reduceLE, Int.reduceAdd, Int.reduceSub, Int.reduceNeg, Int.reduceToNat, undef, Value.cells, axL, hvl']; rfl) rfl ?_
      | (with_reducible first | refine end_reg (Ev.mono _ _) ?_ | refine end_dreg (Ev.mono _ _) ?_ | refine end_cond (Ev.mono _ _) ?_ | refine end_block (Ev.mono _ _) ?_ | refine end_loop (Ev.mono _ _) ?_))
  generalize S1.nx = mb at H2
  generalize S1.new (.map [] 0) = S2 at H2
  refine go_loop (Ev.mono _ _) (fun (g : Nat × LockM × List Int × (Int → List Int) × List (Int × Int)) ρ S' => g.1 ≤ l.length ∧ LkB g.1 g.2.1 g.2.2.1 g.2.2.2.1 ∧ Socks g.2.2.1 g.2.2.2.1 g.2.2.2.2 ∧ ρ = [(30, .int .i64 g.1), (4, .map (some mb)), (3, .pointer (some ⟨L, 0, none⟩)), (5, .int .i64 g.2.1.passes), (28, v'), (29, .int .i64 l.length)] ∧ St R (MapI (Value.int .i64) mb g.2.2.2.2 :: LocksA L [g.2.1] :: F) S') (fun g => l.length - g.1) (0, lock0, [], fun _ => [], []) ⟨Nat.zero_le _, LkB.zero, fun s hs => absurd hs (by simp), rfl, H2⟩ ?_
  clear H2 H1 H
  rintro ⟨k, m, o, f, mp⟩ ρ S2 ⟨hk, hB, hS, rfl, H2⟩
  dsimp only at hk hB hS H2
  have wk : IntKind.wrap .i64 ((k : Int) + 1) = ((k + 1 : Nat) : Int) := wrapI (n := (k : Int) + 1) (by unfold I64; omega)
  repeat' (first
      | (with_reducible first | refine go_assoc ?_ (Ev.mono _ _) | refine go_skip ?_ | refine go_fin ?_ | refine go_ret ?_ | refine go_ret0 ?_ | refine go_exit ?_ | refine go_exit0 ?_ | refine go_block ?_ | refine n_then ?_ | refine x_then ?_ | refine r_then ?_ | refine n_block ?_ | refine r_block ?_ | refine x_block ?_ | refine x_block_ne ?_ (by decide))
      | (with_reducible refine is_k ?_; refine go_k _ (by simp only [Ax.runK, Ax.runOps, Ax.run1, Ax.wantA, Ax.step, Ax.ev, Ax.evs, Ax.evo, Ax.evp, Ax.look, Ax.putE, Ax.keepE, Ax.argsE, Ax.extr, Ax.binV, Ax.intBin, Ax.unV, Ax.addOff, Ax.sizeN, Ax.mkV, Ax.okV, reduceIte, Nat.reduceEqDiff, Nat.reduceAdd, Nat.reduceLeDiff, Nat.reduceLT, Nat.reduceSub, Nat.reduceMul, reduceCtorEq, Int.reduceEq, Int.reduceLT, Int.reduceLE, Int.reduceAdd, Int.reduceSub, Int.reduceNeg, Int.reduceToNat, undef, Value.cells, axL]; rfl) rfl ?_)
      | (with_reducible refine cond_t ?_ ?_; · simp only [Ax.ev, Ax.look, reduceIte, Nat.reduceEqDiff])
      | (with_reducible refine cond_f ?_ ?_; · simp only [Ax.ev, Ax.look, reduceIte, Nat.reduceEqDiff])
      | (with_reducible refine is_rp ?_; first | refine r_postR rfl ?_ | refine r_postR (by simp only [Ax.result, Ax.resVs, Ax.resV, R4, Ax.look, sizeN, mkV, Nat.reduceEqDiff, reduceIte, axL]; rfl) ?_)
      | (with_reducible refine is_np ?_; first | refine n_postR rfl ?_ | refine n_postR (by simp only [Ax.result, Ax.resVs, Ax.resV, R4, Ax.look, sizeN, mkV, Nat.reduceEqDiff, reduceIte, axL]; rfl) ?_)
      | (first | with_reducible refine is_wd ?_ | with_reducible refine dk_wd ?_); refine go_dt _ (by simp only [Ax.runDK, Ax.runDT, Ax.runDops, Ax.run1d, Ax.recs, Ax.okPair, Ax.idsE, Ax.idsV, AOp.mems, AOp.isWrite, DRec.none, axD, Ax.runK, Ax.runOps, Ax.run1, Ax.wantA, Ax.step, Ax.ev, Ax.evs, Ax.evo, Ax.evp, Ax.look, Ax.putE, Ax.keepE, Ax.argsE, Ax.extr, Ax.binV, Ax.intBin, Ax.unV, Ax.addOff, Ax.sizeN, Ax.mkV, Ax.okV, reduceIte, Nat.reduceEqDiff, Nat.reduceAdd, Nat.reduceLeDiff, Nat.reduceLT, Nat.reduceSub, Nat.reduceMul, reduceCtorEq, Int.reduceEq, Int.reduceLT, Int.reduceLE, Int.reduceAdd, Int.reduceSub, Int.reduceNeg, Int.reduceToNat, undef, Value.cells, axL]; rfl) rfl ?_
      | (with_reducible first | refine end_reg (Ev.mono _ _) ?_ | refine end_dreg (Ev.mono _ _) ?_ | refine end_cond (Ev.mono _ _) ?_ | refine end_block (Ev.mono _ _) ?_ | refine end_loop (Ev.mono _ _) ?_))
  refine cond_d rfl (fun hlt => ?_) (fun hlt => ?_)
  · have hkl : k < l.length := by omega
    obtain ⟨b, a, f1, f2, f3, f4⟩ := RdT.at (hv'.rd H2) hkl .i64
    obtain ⟨od, hod⟩ : ∃ od, od = l[k] := ⟨_, rfl⟩
    have hkd := hkl' l[k] (List.getElem_mem hkl)
    rw [← hod] at f3 f4 hkd
    rw [enc_op] at f3
    repeat' (first
        | (with_reducible first | refine go_assoc ?_ (Ev.mono _ _) | refine go_skip ?_ | refine go_fin ?_ | refine go_ret ?_ | refine go_ret0 ?_ | refine go_exit ?_ | refine go_exit0 ?_ | refine go_block ?_ | refine n_then ?_ | refine x_then ?_ | refine r_then ?_ | refine n_block ?_ | refine r_block ?_ | refine x_block ?_ | refine x_block_ne ?_ (by decide))
        | (with_reducible refine is_k ?_; refine go_k _ (by simp only [Ax.runK, Ax.runOps, Ax.run1, Ax.wantA, Ax.step, Ax.ev, Ax.evs, Ax.evo, Ax.evp, Ax.look, Ax.putE, Ax.keepE, Ax.argsE, Ax.extr, Ax.binV, Ax.intBin, Ax.unV, Ax.addOff, Ax.sizeN, Ax.mkV, Ax.okV, reduceIte, Nat.reduceEqDiff, Nat.reduceAdd, Nat.reduceLeDiff, Nat.reduceLT, Nat.reduceSub, Nat.reduceMul, reduceCtorEq, Int.reduceEq, Int.reduceLT, Int.reduceLE, Int.reduceAdd, Int.reduceSub, Int.reduceNeg, Int.reduceToNat, undef, Value.cells, axL, f1, f3]; rfl) rfl ?_)
        | (with_reducible refine cond_t ?_ ?_; · simp only [Ax.ev, Ax.look, reduceIte, Nat.reduceEqDiff])
        | (with_reducible refine cond_f ?_ ?_; · simp only [Ax.ev, Ax.look, reduceIte, Nat.reduceEqDiff])
        | (with_reducible refine is_rp ?_; first | refine r_postR rfl ?_ | refine r_postR (by simp only [Ax.result, Ax.resVs, Ax.resV, R4, Ax.look, sizeN, mkV, Nat.reduceEqDiff, reduceIte, axL, f1, f3]; rfl) ?_)
        | (with_reducible refine is_np ?_; first | refine n_postR rfl ?_ | refine n_postR (by simp only [Ax.result, Ax.resVs, Ax.resV, R4, Ax.look, sizeN, mkV, Nat.reduceEqDiff, reduceIte, axL, f1, f3]; rfl) ?_)
        | (first | with_reducible refine is_wd ?_ | with_reducible refine dk_wd ?_); refine go_dt _ (by simp only [Ax.runDK, Ax.runDT, Ax.runDops, Ax.run1d, Ax.recs, Ax.okPair, Ax.idsE, Ax.idsV, AOp.mems, AOp.isWrite, DRec.none, axD, Ax.runK, Ax.runOps, Ax.run1, Ax.wantA, Ax.step, Ax.ev, Ax.evs, Ax.evo, Ax.evp, Ax.look, Ax.putE, Ax.keepE, Ax.argsE, Ax.extr, Ax.binV, Ax.intBin, Ax.unV, Ax.addOff, Ax.sizeN, Ax.mkV, Ax.okV, reduceIte, Nat.reduceEqDiff, Nat.reduceAdd, Nat.reduceLeDiff, Nat.reduceLT, Nat.reduceSub, Nat.reduceMul, reduceCtorEq, Int.reduceEq, Int.reduceLT, Int.reduceLE, Int.reduceAdd, Int.reduceSub, Int.reduceNeg, Int.reduceToNat, undef, Value.cells, axL, f1, f3]; rfl) rfl ?_
        | (with_reducible first | refine end_reg (Ev.mono _ _) ?_ | refine end_dreg (Ev.mono _ _) ?_ | refine end_cond (Ev.mono _ _) ?_ | refine end_block (Ev.mono _ _) ?_ | refine end_loop (Ev.mono _ _) ?_))
    have H3 := H2.newc [.int .u64 od.kind, .int .i64 od.lock, .int .i64 od.task, .int .i64 od.socket]
    generalize S2.nx = ob at H3
    generalize S2.new (.cells false [.int .u64 od.kind, .int .i64 od.lock, .int .i64 od.task, .int .i64 od.socket]) = S3 at H3
    have hb := H3.pget
    refine cond_d rfl (fun hev => ?_) (fun hev => ?_)
    · obtain ⟨a1, ha1⟩ := min_ex od.task 1000
      obtain ⟨t, ht⟩ := max_ex 0 a1
      obtain ⟨a2, ha2⟩ := min_ex od.socket 1000
      obtain ⟨s, hs⟩ := max_ex 0 a2
      repeat' (first
          | (with_reducible first | refine go_assoc ?_ (Ev.mono _ _) | refine go_skip ?_ | refine go_fin ?_ | refine go_ret ?_ | refine go_ret0 ?_ | refine go_exit ?_ | refine go_exit0 ?_ | refine go_block ?_ | refine n_then ?_ | refine x_then ?_ | refine r_then ?_ | refine n_block ?_ | refine r_block ?_ | refine x_block ?_ | refine x_block_ne ?_ (by decide))
          | (with_reducible refine is_k ?_; refine go_k _ (by simp only [Ax.runK, Ax.runOps, Ax.run1, Ax.wantA, Ax.step, Ax.ev, Ax.evs, Ax.evo, Ax.evp, Ax.look, Ax.putE, Ax.keepE, Ax.argsE, Ax.extr, Ax.binV, Ax.intBin, Ax.unV, Ax.addOff, Ax.sizeN, Ax.mkV, Ax.okV, reduceIte, Nat.reduceEqDiff, Nat.reduceAdd, Nat.reduceLeDiff, Nat.reduceLT, Nat.reduceSub, Nat.reduceMul, reduceCtorEq, Int.reduceEq, Int.reduceLT, Int.reduceLE, Int.reduceAdd, Int.reduceSub, Int.reduceNeg, Int.reduceToNat, undef, Value.cells, axL, get1 hb, ha1, ht, ha2, hs]; rfl) rfl ?_)
          | (with_reducible refine cond_t ?_ ?_; · simp only [Ax.ev, Ax.look, reduceIte, Nat.reduceEqDiff])
          | (with_reducible refine cond_f ?_ ?_; · simp only [Ax.ev, Ax.look, reduceIte, Nat.reduceEqDiff])
          | (with_reducible refine is_rp ?_; first | refine r_postR rfl ?_ | refine r_postR (by simp only [Ax.result, Ax.resVs, Ax.resV, R4, Ax.look, sizeN, mkV, Nat.reduceEqDiff, reduceIte, axL, get1 hb, ha1, ht, ha2, hs]; rfl) ?_)
          | (with_reducible refine is_np ?_; first | refine n_postR rfl ?_ | refine n_postR (by simp only [Ax.result, Ax.resVs, Ax.resV, R4, Ax.look, sizeN, mkV, Nat.reduceEqDiff, reduceIte, axL, get1 hb, ha1, ht, ha2, hs]; rfl) ?_)
          | (first | with_reducible refine is_wd ?_ | with_reducible refine dk_wd ?_); refine go_dt _ (by simp only [Ax.runDK, Ax.runDT, Ax.runDops, Ax.run1d, Ax.recs, Ax.okPair, Ax.idsE, Ax.idsV, AOp.mems, AOp.isWrite, DRec.none, axD, Ax.runK, Ax.runOps, Ax.run1, Ax.wantA, Ax.step, Ax.ev, Ax.evs, Ax.evo, Ax.evp, Ax.look, Ax.putE, Ax.keepE, Ax.argsE, Ax.extr, Ax.binV, Ax.intBin, Ax.unV, Ax.addOff, Ax.sizeN, Ax.mkV, Ax.okV, reduceIte, Nat.reduceEqDiff, Nat.reduceAdd, Nat.reduceLeDiff, Nat.reduceLT, Nat.reduceSub, Nat.reduceMul, reduceCtorEq, Int.reduceEq, Int.reduceLT, Int.reduceLE, Int.reduceAdd, Int.reduceSub, Int.reduceNeg, Int.reduceToNat, undef, Value.cells, axL, get1 hb, ha1, ht, ha2, hs]; rfl) rfl ?_
          | (with_reducible first | refine end_reg (Ev.mono _ _) ?_ | refine end_dreg (Ev.mono _ _) ?_ | refine end_cond (Ev.mono _ _) ?_ | refine end_block (Ev.mono _ _) ?_ | refine end_loop (Ev.mono _ _) ?_))
      repeat' (with_reducible first | refine go_assoc ?_ (Ev.mono _ _) | refine go_skip ?_ | refine go_block ?_ | refine end_reg (Ev.mono _ _) ?_)
      refine go_callC _ (by simp only [Ax.runC, AOp.isCall, Ax.runK, Ax.runOps, Ax.run1, Ax.wantA, Ax.step, Ax.ev, Ax.evs, Ax.evo, Ax.evp, Ax.look, Ax.putE, Ax.keepE, Ax.argsE, Ax.extr, Ax.binV, Ax.intBin, Ax.unV, Ax.addOff, Ax.sizeN, Ax.mkV, Ax.okV, reduceIte, Nat.reduceEqDiff, Nat.reduceAdd, Nat.reduceLeDiff, Nat.reduceLT, Nat.reduceSub, Nat.reduceMul, reduceCtorEq, Int.reduceEq, Int.reduceLT, Int.reduceLE, Int.reduceAdd, Int.reduceSub, Int.reduceNeg, Int.reduceToNat, undef, Value.cells, axL]; rfl) rfl rfl (by simp only [Ax.wantA, Ax.look, reduceIte, Nat.reduceEqDiff, bq_t, bq_f, Bool.not_true, Bool.not_false]; try rfl) rfl (by simp only [Ax.runK, Ax.runOps, Ax.run1, Ax.wantA, Ax.step, Ax.ev, Ax.evs, Ax.evo, Ax.evp, Ax.look, Ax.putE, Ax.keepE, Ax.argsE, Ax.extr, Ax.binV, Ax.intBin, Ax.unV, Ax.addOff, Ax.sizeN, Ax.mkV, Ax.okV, reduceIte, Nat.reduceEqDiff, Nat.reduceAdd, Nat.reduceLeDiff, Nat.reduceLT, Nat.reduceSub, Nat.reduceMul, reduceCtorEq, Int.reduceEq, Int.reduceLT, Int.reduceLE, Int.reduceAdd, Int.reduceSub, Int.reduceNeg, Int.reduceToNat, undef, Value.cells, axL]; try rfl) ?_
      refine take1_spec XL (H3.pick 3 [2, 1, 0] rfl) (hB.inv (by omega)).small t s (fun S4 H4 => ?_)
      rcases hB.take t s with ⟨e, he, ht⟩ | ⟨hh, hw, ht, hB'⟩ | ⟨hh, hw, _, ht, hB'⟩
      · rw [ht] at H4 ⊢
        repeat' (first
            | (with_reducible first | refine go_assoc ?_ (Ev.mono _ _) | refine go_skip ?_ | refine go_fin ?_ | refine go_ret ?_ | refine go_ret0 ?_ | refine go_exit ?_ | refine go_exit0 ?_ | refine go_block ?_ | refine n_then ?_ | refine x_then ?_ | refine r_then ?_ | refine n_block ?_ | refine r_block ?_ | refine x_block ?_ | refine x_block_ne ?_ (by decide))
            | (with_reducible refine is_k ?_; refine go_k _ (by simp only [Ax.runK, Ax.runOps, Ax.run1, Ax.wantA, Ax.step, Ax.ev, Ax.evs, Ax.evo, Ax.evp, Ax.look, Ax.putE, Ax.keepE, Ax.argsE, Ax.extr, Ax.binV, Ax.intBin, Ax.unV, Ax.addOff, Ax.sizeN, Ax.mkV, Ax.okV, reduceIte, Nat.reduceEqDiff, Nat.reduceAdd, Nat.reduceLeDiff, Nat.reduceLT, Nat.reduceSub, Nat.reduceMul, reduceCtorEq, Int.reduceEq, Int.reduceLT, Int.reduceLE, Int.reduceAdd, Int.reduceSub, Int.reduceNeg, Int.reduceToNat, undef, Value.cells, axL]; rfl) rfl ?_)
            | (with_reducible refine cond_t ?_ ?_; · simp only [Ax.ev, Ax.look, reduceIte, Nat.reduceEqDiff])
            | (with_reducible refine cond_f ?_ ?_; · simp only [Ax.ev, Ax.look, reduceIte, Nat.reduceEqDiff])
            | (with_reducible refine is_rp ?_; first | refine r_postR rfl ?_ | refine r_postR (by simp only [Ax.result, Ax.resVs, Ax.resV, R4, Ax.look, sizeN, mkV, Nat.reduceEqDiff, reduceIte, axL]; rfl) ?_)
            | (with_reducible refine is_np ?_; first | refine n_postR rfl ?_ | refine n_postR (by simp only [Ax.result, Ax.resVs, Ax.resV, R4, Ax.look, sizeN, mkV, Nat.reduceEqDiff, reduceIte, axL]; rfl) ?_)
            | (first | with_reducible refine is_wd ?_ | with_reducible refine dk_wd ?_); refine go_dt _ (by simp only [Ax.runDK, Ax.runDT, Ax.runDops, Ax.run1d, Ax.recs, Ax.okPair, Ax.idsE, Ax.idsV, AOp.mems, AOp.isWrite, DRec.none, axD, Ax.runK, Ax.runOps, Ax.run1, Ax.wantA, Ax.step, Ax.ev, Ax.evs, Ax.evo, Ax.evp, Ax.look, Ax.putE, Ax.keepE, Ax.argsE, Ax.extr, Ax.binV, Ax.intBin, Ax.unV, Ax.addOff, Ax.sizeN, Ax.mkV, Ax.okV, reduceIte, Nat.reduceEqDiff, Nat.reduceAdd, Nat.reduceLeDiff, Nat.reduceLT, Nat.reduceSub, Nat.reduceMul, reduceCtorEq, Int.reduceEq, Int.reduceLT, Int.reduceLE, Int.reduceAdd, Int.reduceSub, Int.reduceNeg, Int.reduceToNat, undef, Value.cells, axL]; rfl) rfl ?_
            | (with_reducible first | refine end_reg (Ev.mono _ _) ?_ | refine end_dreg (Ev.mono _ _) ?_ | refine end_cond (Ev.mono _ _) ?_ | refine end_block (Ev.mono _ _) ?_ | refine end_loop (Ev.mono _ _) ?_))
        refine cond_d rfl (fun h => absurd h he) (fun _ => ?_)
        repeat' (first
            | (with_reducible first | refine go_assoc ?_ (Ev.mono _ _) | refine go_skip ?_ | refine go_fin ?_ | refine go_ret ?_ | refine go_ret0 ?_ | refine go_exit ?_ | refine go_exit0 ?_ | refine go_block ?_ | refine n_then ?_ | refine x_then ?_ | refine r_then ?_ | refine n_block ?_ | refine r_block ?_ | refine x_block ?_ | refine x_block_ne ?_ (by decide))
            | (with_reducible refine is_k ?_; refine go_k _ (by simp only [Ax.runK, Ax.runOps, Ax.run1, Ax.wantA, Ax.step, Ax.ev, Ax.evs, Ax.evo, Ax.evp, Ax.look, Ax.putE, Ax.keepE, Ax.argsE, Ax.extr, Ax.binV, Ax.intBin, Ax.unV, Ax.addOff, Ax.sizeN, Ax.mkV, Ax.okV, reduceIte, Nat.reduceEqDiff, Nat.reduceAdd, Nat.reduceLeDiff, Nat.reduceLT, Nat.reduceSub, Nat.reduceMul, reduceCtorEq, Int.reduceEq, Int.reduceLT, Int.reduceLE, Int.reduceAdd, Int.reduceSub, Int.reduceNeg, Int.reduceToNat, undef, Value.cells, axL, wk]; rfl) rfl ?_)
            | (with_reducible refine cond_t ?_ ?_; · simp only [Ax.ev, Ax.look, reduceIte, Nat.reduceEqDiff])
            | (with_reducible refine cond_f ?_ ?_; · simp only [Ax.ev, Ax.look, reduceIte, Nat.reduceEqDiff])
            | (with_reducible refine is_rp ?_; first | refine r_postR rfl ?_ | refine r_postR (by simp only [Ax.result, Ax.resVs, Ax.resV, R4, Ax.look, sizeN, mkV, Nat.reduceEqDiff, reduceIte, axL, wk]; rfl) ?_)
            | (with_reducible refine is_np ?_; first | refine n_postR rfl ?_ | refine n_postR (by simp only [Ax.result, Ax.resVs, Ax.resV, R4, Ax.look, sizeN, mkV, Nat.reduceEqDiff, reduceIte, axL, wk]; rfl) ?_)
            | (first | with_reducible refine is_wd ?_ | with_reducible refine dk_wd ?_); refine go_dt _ (by simp only [Ax.runDK, Ax.runDT, Ax.runDops, Ax.run1d, Ax.recs, Ax.okPair, Ax.idsE, Ax.idsV, AOp.mems, AOp.isWrite, DRec.none, axD, Ax.runK, Ax.runOps, Ax.run1, Ax.wantA, Ax.step, Ax.ev, Ax.evs, Ax.evo, Ax.evp, Ax.look, Ax.putE, Ax.keepE, Ax.argsE, Ax.extr, Ax.binV, Ax.intBin, Ax.unV, Ax.addOff, Ax.sizeN, Ax.mkV, Ax.okV, reduceIte, Nat.reduceEqDiff, Nat.reduceAdd, Nat.reduceLeDiff, Nat.reduceLT, Nat.reduceSub, Nat.reduceMul, reduceCtorEq, Int.reduceEq, Int.reduceLT, Int.reduceLE, Int.reduceAdd, Int.reduceSub, Int.reduceNeg, Int.reduceToNat, undef, Value.cells, axL, wk]; rfl) rfl ?_
            | (with_reducible first | refine end_reg (Ev.mono _ _) ?_ | refine end_dreg (Ev.mono _ _) ?_ | refine end_cond (Ev.mono _ _) ?_ | refine end_block (Ev.mono _ _) ?_ | refine end_loop (Ev.mono _ _) ?_))
        exact ⟨(k + 1, m, o, f, mp), by simp; omega, ⟨by simp; omega, hB.more (by omega), hS, rfl, H4.pick 3 [1, 0] rfl⟩⟩
      · rw [ht] at H4 hB' ⊢
        obtain ⟨S5, g1, H5, g3, g4⟩ := MapI.upd (H4.pick 3 [1, 0, 2] rfl) t s
        have ho := hB.free hh
        repeat' (first
            | (with_reducible first | refine go_assoc ?_ (Ev.mono _ _) | refine go_skip ?_ | refine go_fin ?_ | refine go_ret ?_ | refine go_ret0 ?_ | refine go_exit ?_ | refine go_exit0 ?_ | refine go_block ?_ | refine n_then ?_ | refine x_then ?_ | refine r_then ?_ | refine n_block ?_ | refine r_block ?_ | refine x_block ?_ | refine x_block_ne ?_ (by decide))
            | (with_reducible refine is_k ?_; refine go_k _ (by simp only [Ax.runK, Ax.runOps, Ax.run1, Ax.wantA, Ax.step, Ax.ev, Ax.evs, Ax.evo, Ax.evp, Ax.look, Ax.putE, Ax.keepE, Ax.argsE, Ax.extr, Ax.binV, Ax.intBin, Ax.unV, Ax.addOff, Ax.sizeN, Ax.mkV, Ax.okV, reduceIte, Nat.reduceEqDiff, Nat.reduceAdd, Nat.reduceLeDiff, Nat.reduceLT, Nat.reduceSub, Nat.reduceMul, reduceCtorEq, Int.reduceEq, Int.reduceLT, Int.reduceLE, Int.reduceAdd, Int.reduceSub, Int.reduceNeg, Int.reduceToNat, undef, Value.cells, axL, g1, wk]; rfl) rfl ?_)
            | (with_reducible refine cond_t ?_ ?_; · simp only [Ax.ev, Ax.look, reduceIte, Nat.reduceEqDiff])
            | (with_reducible refine cond_f ?_ ?_; · simp only [Ax.ev, Ax.look, reduceIte, Nat.reduceEqDiff])
            | (with_reducible refine is_rp ?_; first | refine r_postR rfl ?_ | refine r_postR (by simp only [Ax.result, Ax.resVs, Ax.resV, R4, Ax.look, sizeN, mkV, Nat.reduceEqDiff, reduceIte, axL, g1, wk]; rfl) ?_)
            | (with_reducible refine is_np ?_; first | refine n_postR rfl ?_ | refine n_postR (by simp only [Ax.result, Ax.resVs, Ax.resV, R4, Ax.look, sizeN, mkV, Nat.reduceEqDiff, reduceIte, axL, g1, wk]; rfl) ?_)
            | (first | with_reducible refine is_wd ?_ | with_reducible refine dk_wd ?_); refine go_dt _ (by simp only [Ax.runDK, Ax.runDT, Ax.runDops, Ax.run1d, Ax.recs, Ax.okPair, Ax.idsE, Ax.idsV, AOp.mems, AOp.isWrite, DRec.none, axD, Ax.runK, Ax.runOps, Ax.run1, Ax.wantA, Ax.step, Ax.ev, Ax.evs, Ax.evo, Ax.evp, Ax.look, Ax.putE, Ax.keepE, Ax.argsE, Ax.extr, Ax.binV, Ax.intBin, Ax.unV, Ax.addOff, Ax.sizeN, Ax.mkV, Ax.okV, reduceIte, Nat.reduceEqDiff, Nat.reduceAdd, Nat.reduceLeDiff, Nat.reduceLT, Nat.reduceSub, Nat.reduceMul, reduceCtorEq, Int.reduceEq, Int.reduceLT, Int.reduceLE, Int.reduceAdd, Int.reduceSub, Int.reduceNeg, Int.reduceToNat, undef, Value.cells, axL, g1, wk]; rfl) rfl ?_
            | (with_reducible first | refine end_reg (Ev.mono _ _) ?_ | refine end_dreg (Ev.mono _ _) ?_ | refine end_cond (Ev.mono _ _) ?_ | refine end_block (Ev.mono _ _) ?_ | refine end_loop (Ev.mono _ _) ?_))
        exact ⟨(k + 1, _, o, f, ups mp t s), by simp; omega, ⟨by simp; omega, hB', (by rw [ho]; intro s hs; cases hs), rfl, H5.pick 3 [0, 1] rfl⟩⟩
      · rw [ht] at H4 hB' ⊢
        obtain ⟨S5, g1, H5, g3, g4⟩ := MapI.upd (H4.pick 3 [1, 0, 2] rfl) t s
        have hS' : Socks (addO o s) (upF f s (f s ++ [t])) (ups mp t s) := hS.add hB hw
        repeat' (first
            | (with_reducible first | refine go_assoc ?_ (Ev.mono _ _) | refine go_skip ?_ | refine go_fin ?_ | refine go_ret ?_ | refine go_ret0 ?_ | refine go_exit ?_ | refine go_exit0 ?_ | refine go_block ?_ | refine n_then ?_ | refine x_then ?_ | refine r_then ?_ | refine n_block ?_ | refine r_block ?_ | refine x_block ?_ | refine x_block_ne ?_ (by decide))
            | (with_reducible refine is_k ?_; refine go_k _ (by simp only [Ax.runK, Ax.runOps, Ax.run1, Ax.wantA, Ax.step, Ax.ev, Ax.evs, Ax.evo, Ax.evp, Ax.look, Ax.putE, Ax.keepE, Ax.argsE, Ax.extr, Ax.binV, Ax.intBin, Ax.unV, Ax.addOff, Ax.sizeN, Ax.mkV, Ax.okV, reduceIte, Nat.reduceEqDiff, Nat.reduceAdd, Nat.reduceLeDiff, Nat.reduceLT, Nat.reduceSub, Nat.reduceMul, reduceCtorEq, Int.reduceEq, Int.reduceLT, Int.reduceLE, Int.reduceAdd, Int.reduceSub, Int.reduceNeg, Int.reduceToNat, undef, Value.cells, axL, g1, wk]; rfl) rfl ?_)
            | (with_reducible refine cond_t ?_ ?_; · simp only [Ax.ev, Ax.look, reduceIte, Nat.reduceEqDiff])
            | (with_reducible refine cond_f ?_ ?_; · simp only [Ax.ev, Ax.look, reduceIte, Nat.reduceEqDiff])
            | (with_reducible refine is_rp ?_; first | refine r_postR rfl ?_ | refine r_postR (by simp only [Ax.result, Ax.resVs, Ax.resV, R4, Ax.look, sizeN, mkV, Nat.reduceEqDiff, reduceIte, axL, g1, wk]; rfl) ?_)
            | (with_reducible refine is_np ?_; first | refine n_postR rfl ?_ | refine n_postR (by simp only [Ax.result, Ax.resVs, Ax.resV, R4, Ax.look, sizeN, mkV, Nat.reduceEqDiff, reduceIte, axL, g1, wk]; rfl) ?_)
            | (first | with_reducible refine is_wd ?_ | with_reducible refine dk_wd ?_); refine go_dt _ (by simp only [Ax.runDK, Ax.runDT, Ax.runDops, Ax.run1d, Ax.recs, Ax.okPair, Ax.idsE, Ax.idsV, AOp.mems, AOp.isWrite, DRec.none, axD, Ax.runK, Ax.runOps, Ax.run1, Ax.wantA, Ax.step, Ax.ev, Ax.evs, Ax.evo, Ax.evp, Ax.look, Ax.putE, Ax.keepE, Ax.argsE, Ax.extr, Ax.binV, Ax.intBin, Ax.unV, Ax.addOff, Ax.sizeN, Ax.mkV, Ax.okV, reduceIte, Nat.reduceEqDiff, Nat.reduceAdd, Nat.reduceLeDiff, Nat.reduceLT, Nat.reduceSub, Nat.reduceMul, reduceCtorEq, Int.reduceEq, Int.reduceLT, Int.reduceLE, Int.reduceAdd, Int.reduceSub, Int.reduceNeg, Int.reduceToNat, undef, Value.cells, axL, g1, wk]; rfl) rfl ?_
            | (with_reducible first | refine end_reg (Ev.mono _ _) ?_ | refine end_dreg (Ev.mono _ _) ?_ | refine end_cond (Ev.mono _ _) ?_ | refine end_block (Ev.mono _ _) ?_ | refine end_loop (Ev.mono _ _) ?_))
        exact ⟨(k + 1, _, _, _, ups mp t s), by simp; omega, ⟨by simp; omega, hB', hS', rfl, H5.pick 3 [0, 1] rfl⟩⟩
    · repeat' (first
          | (with_reducible first | refine go_assoc ?_ (Ev.mono _ _) | refine go_skip ?_ | refine go_fin ?_ | refine go_ret ?_ | refine go_ret0 ?_ | refine go_exit ?_ | refine go_exit0 ?_ | refine go_block ?_ | refine n_then ?_ | refine x_then ?_ | refine r_then ?_ | refine n_block ?_ | refine r_block ?_ | refine x_block ?_ | refine x_block_ne ?_ (by decide))
          | (with_reducible refine is_k ?_; refine go_k _ (by simp only [Ax.runK, Ax.runOps, Ax.run1, Ax.wantA, Ax.step, Ax.ev, Ax.evs, Ax.evo, Ax.evp, Ax.look, Ax.putE, Ax.keepE, Ax.argsE, Ax.extr, Ax.binV, Ax.intBin, Ax.unV, Ax.addOff, Ax.sizeN, Ax.mkV, Ax.okV, reduceIte, Nat.reduceEqDiff, Nat.reduceAdd, Nat.reduceLeDiff, Nat.reduceLT, Nat.reduceSub, Nat.reduceMul, reduceCtorEq, Int.reduceEq, Int.reduceLT, Int.reduceLE, Int.reduceAdd, Int.reduceSub, Int.reduceNeg, Int.reduceToNat, undef, Value.cells, axL]; rfl) rfl ?_)
          | (with_reducible refine cond_t ?_ ?_; · simp only [Ax.ev, Ax.look, reduceIte, Nat.reduceEqDiff])
          | (with_reducible refine cond_f ?_ ?_; · simp only [Ax.ev, Ax.look, reduceIte, Nat.reduceEqDiff])
          | (with_reducible refine is_rp ?_; first | refine r_postR rfl ?_ | refine r_postR (by simp only [Ax.result, Ax.resVs, Ax.resV, R4, Ax.look, sizeN, mkV, Nat.reduceEqDiff, reduceIte, axL]; rfl) ?_)
          | (with_reducible refine is_np ?_; first | refine n_postR rfl ?_ | refine n_postR (by simp only [Ax.result, Ax.resVs, Ax.resV, R4, Ax.look, sizeN, mkV, Nat.reduceEqDiff, reduceIte, axL]; rfl) ?_)
          | (first | with_reducible refine is_wd ?_ | with_reducible refine dk_wd ?_); refine go_dt _ (by simp only [Ax.runDK, Ax.runDT, Ax.runDops, Ax.run1d, Ax.recs, Ax.okPair, Ax.idsE, Ax.idsV, AOp.mems, AOp.isWrite, DRec.none, axD, Ax.runK, Ax.runOps, Ax.run1, Ax.wantA, Ax.step, Ax.ev, Ax.evs, Ax.evo, Ax.evp, Ax.look, Ax.putE, Ax.keepE, Ax.argsE, Ax.extr, Ax.binV, Ax.intBin, Ax.unV, Ax.addOff, Ax.sizeN, Ax.mkV, Ax.okV, reduceIte, Nat.reduceEqDiff, Nat.reduceAdd, Nat.reduceLeDiff, Nat.reduceLT, Nat.reduceSub, Nat.reduceMul, reduceCtorEq, Int.reduceEq, Int.reduceLT, Int.reduceLE, Int.reduceAdd, Int.reduceSub, Int.reduceNeg, Int.reduceToNat, undef, Value.cells, axL]; rfl) rfl ?_
          | (with_reducible first | refine end_reg (Ev.mono _ _) ?_ | refine end_dreg (Ev.mono _ _) ?_ | refine end_cond (Ev.mono _ _) ?_ | refine end_block (Ev.mono _ _) ?_ | refine end_loop (Ev.mono _ _) ?_))
      repeat' (with_reducible first | refine go_assoc ?_ (Ev.mono _ _) | refine go_skip ?_ | refine go_block ?_ | refine end_reg (Ev.mono _ _) ?_)
      refine go_callC _ (by simp only [Ax.runC, AOp.isCall, Ax.runK, Ax.runOps, Ax.run1, Ax.wantA, Ax.step, Ax.ev, Ax.evs, Ax.evo, Ax.evp, Ax.look, Ax.putE, Ax.keepE, Ax.argsE, Ax.extr, Ax.binV, Ax.intBin, Ax.unV, Ax.addOff, Ax.sizeN, Ax.mkV, Ax.okV, reduceIte, Nat.reduceEqDiff, Nat.reduceAdd, Nat.reduceLeDiff, Nat.reduceLT, Nat.reduceSub, Nat.reduceMul, reduceCtorEq, Int.reduceEq, Int.reduceLT, Int.reduceLE, Int.reduceAdd, Int.reduceSub, Int.reduceNeg, Int.reduceToNat, undef, Value.cells, axL]; rfl) rfl rfl (by simp only [Ax.wantA, Ax.look, reduceIte, Nat.reduceEqDiff, bq_t, bq_f, Bool.not_true, Bool.not_false]; try rfl) rfl (by simp only [Ax.runK, Ax.runOps, Ax.run1, Ax.wantA, Ax.step, Ax.ev, Ax.evs, Ax.evo, Ax.evp, Ax.look, Ax.putE, Ax.keepE, Ax.argsE, Ax.extr, Ax.binV, Ax.intBin, Ax.unV, Ax.addOff, Ax.sizeN, Ax.mkV, Ax.okV, reduceIte, Nat.reduceEqDiff, Nat.reduceAdd, Nat.reduceLeDiff, Nat.reduceLT, Nat.reduceSub, Nat.reduceMul, reduceCtorEq, Int.reduceEq, Int.reduceLT, Int.reduceLE, Int.reduceAdd, Int.reduceSub, Int.reduceNeg, Int.reduceToNat, undef, Value.cells, axL]; try rfl) ?_
      refine owner1_spec XL (H3.pick 3 [2, 1] rfl) ?_
      cases hh : m.held with
      | false =>
        repeat' (first
            | (with_reducible first | refine go_assoc ?_ (Ev.mono _ _) | refine go_skip ?_ | refine go_fin ?_ | refine go_ret ?_ | refine go_ret0 ?_ | refine go_exit ?_ | refine go_exit0 ?_ | refine go_block ?_ | refine n_then ?_ | refine x_then ?_ | refine r_then ?_ | refine n_block ?_ | refine r_block ?_ | refine x_block ?_ | refine x_block_ne ?_ (by decide))
            | (with_reducible refine is_k ?_; refine go_k _ (by simp only [Ax.runK, Ax.runOps, Ax.run1, Ax.wantA, Ax.step, Ax.ev, Ax.evs, Ax.evo, Ax.evp, Ax.look, Ax.putE, Ax.keepE, Ax.argsE, Ax.extr, Ax.binV, Ax.intBin, Ax.unV, Ax.addOff, Ax.sizeN, Ax.mkV, Ax.okV, reduceIte, Nat.reduceEqDiff, Nat.reduceAdd, Nat.reduceLeDiff, Nat.reduceLT, Nat.reduceSub, Nat.reduceMul, reduceCtorEq, Int.reduceEq, Int.reduceLT, Int.reduceLE, Int.reduceAdd, Int.reduceSub, Int.reduceNeg, Int.reduceToNat, undef, Value.cells, axL, hh, wk]; rfl) rfl ?_)
            | (with_reducible refine cond_t ?_ ?_; · simp only [Ax.ev, Ax.look, reduceIte, Nat.reduceEqDiff])
            | (with_reducible refine cond_f ?_ ?_; · simp only [Ax.ev, Ax.look, reduceIte, Nat.reduceEqDiff])
            | (with_reducible refine is_rp ?_; first | refine r_postR rfl ?_ | refine r_postR (by simp only [Ax.result, Ax.resVs, Ax.resV, R4, Ax.look, sizeN, mkV, Nat.reduceEqDiff, reduceIte, axL, hh, wk]; rfl) ?_)
            | (with_reducible refine is_np ?_; first | refine n_postR rfl ?_ | refine n_postR (by simp only [Ax.result, Ax.resVs, Ax.resV, R4, Ax.look, sizeN, mkV, Nat.reduceEqDiff, reduceIte, axL, hh, wk]; rfl) ?_)
            | (first | with_reducible refine is_wd ?_ | with_reducible refine dk_wd ?_); refine go_dt _ (by simp only [Ax.runDK, Ax.runDT, Ax.runDops, Ax.run1d, Ax.recs, Ax.okPair, Ax.idsE, Ax.idsV, AOp.mems, AOp.isWrite, DRec.none, axD, Ax.runK, Ax.runOps, Ax.run1, Ax.wantA, Ax.step, Ax.ev, Ax.evs, Ax.evo, Ax.evp, Ax.look, Ax.putE, Ax.keepE, Ax.argsE, Ax.extr, Ax.binV, Ax.intBin, Ax.unV, Ax.addOff, Ax.sizeN, Ax.mkV, Ax.okV, reduceIte, Nat.reduceEqDiff, Nat.reduceAdd, Nat.reduceLeDiff, Nat.reduceLT, Nat.reduceSub, Nat.reduceMul, reduceCtorEq, Int.reduceEq, Int.reduceLT, Int.reduceLE, Int.reduceAdd, Int.reduceSub, Int.reduceNeg, Int.reduceToNat, undef, Value.cells, axL, hh, wk]; rfl) rfl ?_
            | (with_reducible first | refine end_reg (Ev.mono _ _) ?_ | refine end_dreg (Ev.mono _ _) ?_ | refine end_cond (Ev.mono _ _) ?_ | refine end_block (Ev.mono _ _) ?_ | refine end_loop (Ev.mono _ _) ?_))
        exact ⟨(k + 1, m, o, f, mp), by simp; omega, ⟨by simp; omega, hB.more (by omega), hS, rfl, H3.pick 3 [1, 2] rfl⟩⟩
      | true =>
        repeat' (first
            | (with_reducible first | refine go_assoc ?_ (Ev.mono _ _) | refine go_skip ?_ | refine go_fin ?_ | refine go_ret ?_ | refine go_ret0 ?_ | refine go_exit ?_ | refine go_exit0 ?_ | refine go_block ?_ | refine n_then ?_ | refine x_then ?_ | refine r_then ?_ | refine n_block ?_ | refine r_block ?_ | refine x_block ?_ | refine x_block_ne ?_ (by decide))
            | (with_reducible refine is_k ?_; refine go_k _ (by simp only [Ax.runK, Ax.runOps, Ax.run1, Ax.wantA, Ax.step, Ax.ev, Ax.evs, Ax.evo, Ax.evp, Ax.look, Ax.putE, Ax.keepE, Ax.argsE, Ax.extr, Ax.binV, Ax.intBin, Ax.unV, Ax.addOff, Ax.sizeN, Ax.mkV, Ax.okV, reduceIte, Nat.reduceEqDiff, Nat.reduceAdd, Nat.reduceLeDiff, Nat.reduceLT, Nat.reduceSub, Nat.reduceMul, reduceCtorEq, Int.reduceEq, Int.reduceLT, Int.reduceLE, Int.reduceAdd, Int.reduceSub, Int.reduceNeg, Int.reduceToNat, undef, Value.cells, axL, hh]; rfl) rfl ?_)
            | (with_reducible refine cond_t ?_ ?_; · simp only [Ax.ev, Ax.look, reduceIte, Nat.reduceEqDiff])
            | (with_reducible refine cond_f ?_ ?_; · simp only [Ax.ev, Ax.look, reduceIte, Nat.reduceEqDiff])
            | (with_reducible refine is_rp ?_; first | refine r_postR rfl ?_ | refine r_postR (by simp only [Ax.result, Ax.resVs, Ax.resV, R4, Ax.look, sizeN, mkV, Nat.reduceEqDiff, reduceIte, axL, hh]; rfl) ?_)
            | (with_reducible refine is_np ?_; first | refine n_postR rfl ?_ | refine n_postR (by simp only [Ax.result, Ax.resVs, Ax.resV, R4, Ax.look, sizeN, mkV, Nat.reduceEqDiff, reduceIte, axL, hh]; rfl) ?_)
            | (first | with_reducible refine is_wd ?_ | with_reducible refine dk_wd ?_); refine go_dt _ (by simp only [Ax.runDK, Ax.runDT, Ax.runDops, Ax.run1d, Ax.recs, Ax.okPair, Ax.idsE, Ax.idsV, AOp.mems, AOp.isWrite, DRec.none, axD, Ax.runK, Ax.runOps, Ax.run1, Ax.wantA, Ax.step, Ax.ev, Ax.evs, Ax.evo, Ax.evp, Ax.look, Ax.putE, Ax.keepE, Ax.argsE, Ax.extr, Ax.binV, Ax.intBin, Ax.unV, Ax.addOff, Ax.sizeN, Ax.mkV, Ax.okV, reduceIte, Nat.reduceEqDiff, Nat.reduceAdd, Nat.reduceLeDiff, Nat.reduceLT, Nat.reduceSub, Nat.reduceMul, reduceCtorEq, Int.reduceEq, Int.reduceLT, Int.reduceLE, Int.reduceAdd, Int.reduceSub, Int.reduceNeg, Int.reduceToNat, undef, Value.cells, axL, hh]; rfl) rfl ?_
            | (with_reducible first | refine end_reg (Ev.mono _ _) ?_ | refine end_dreg (Ev.mono _ _) ?_ | refine end_cond (Ev.mono _ _) ?_ | refine end_block (Ev.mono _ _) ?_ | refine end_loop (Ev.mono _ _) ?_))
        repeat' (with_reducible first | refine go_assoc ?_ (Ev.mono _ _) | refine go_skip ?_ | refine go_block ?_ | refine end_reg (Ev.mono _ _) ?_)
        refine go_callC _ (by simp only [Ax.runC, AOp.isCall, Ax.runK, Ax.runOps, Ax.run1, Ax.wantA, Ax.step, Ax.ev, Ax.evs, Ax.evo, Ax.evp, Ax.look, Ax.putE, Ax.keepE, Ax.argsE, Ax.extr, Ax.binV, Ax.intBin, Ax.unV, Ax.addOff, Ax.sizeN, Ax.mkV, Ax.okV, reduceIte, Nat.reduceEqDiff, Nat.reduceAdd, Nat.reduceLeDiff, Nat.reduceLT, Nat.reduceSub, Nat.reduceMul, reduceCtorEq, Int.reduceEq, Int.reduceLT, Int.reduceLE, Int.reduceAdd, Int.reduceSub, Int.reduceNeg, Int.reduceToNat, undef, Value.cells, axL]; rfl) rfl rfl (by simp only [Ax.wantA, Ax.look, reduceIte, Nat.reduceEqDiff, bq_t, bq_f, Bool.not_true, Bool.not_false]; try rfl) rfl (by simp only [Ax.runK, Ax.runOps, Ax.run1, Ax.wantA, Ax.step, Ax.ev, Ax.evs, Ax.evo, Ax.evp, Ax.look, Ax.putE, Ax.keepE, Ax.argsE, Ax.extr, Ax.binV, Ax.intBin, Ax.unV, Ax.addOff, Ax.sizeN, Ax.mkV, Ax.okV, reduceIte, Nat.reduceEqDiff, Nat.reduceAdd, Nat.reduceLeDiff, Nat.reduceLT, Nat.reduceSub, Nat.reduceMul, reduceCtorEq, Int.reduceEq, Int.reduceLT, Int.reduceLE, Int.reduceAdd, Int.reduceSub, Int.reduceNeg, Int.reduceToNat, undef, Value.cells, axL]; try rfl) ?_
        refine socket1_spec XL (H3.pick 3 [2, 1] rfl) ?_
        repeat' (first
            | (with_reducible first | refine go_assoc ?_ (Ev.mono _ _) | refine go_skip ?_ | refine go_fin ?_ | refine go_ret ?_ | refine go_ret0 ?_ | refine go_exit ?_ | refine go_exit0 ?_ | refine go_block ?_ | refine n_then ?_ | refine x_then ?_ | refine r_then ?_ | refine n_block ?_ | refine r_block ?_ | refine x_block ?_ | refine x_block_ne ?_ (by decide))
            | (with_reducible refine is_k ?_; refine go_k _ (by simp only [Ax.runK, Ax.runOps, Ax.run1, Ax.wantA, Ax.step, Ax.ev, Ax.evs, Ax.evo, Ax.evp, Ax.look, Ax.putE, Ax.keepE, Ax.argsE, Ax.extr, Ax.binV, Ax.intBin, Ax.unV, Ax.addOff, Ax.sizeN, Ax.mkV, Ax.okV, reduceIte, Nat.reduceEqDiff, Nat.reduceAdd, Nat.reduceLeDiff, Nat.reduceLT, Nat.reduceSub, Nat.reduceMul, reduceCtorEq, Int.reduceEq, Int.reduceLT, Int.reduceLE, Int.reduceAdd, Int.reduceSub, Int.reduceNeg, Int.reduceToNat, undef, Value.cells, axL]; rfl) rfl ?_)
            | (with_reducible refine cond_t ?_ ?_; · simp only [Ax.ev, Ax.look, reduceIte, Nat.reduceEqDiff])
            | (with_reducible refine cond_f ?_ ?_; · simp only [Ax.ev, Ax.look, reduceIte, Nat.reduceEqDiff])
            | (with_reducible refine is_rp ?_; first | refine r_postR rfl ?_ | refine r_postR (by simp only [Ax.result, Ax.resVs, Ax.resV, R4, Ax.look, sizeN, mkV, Nat.reduceEqDiff, reduceIte, axL]; rfl) ?_)
            | (with_reducible refine is_np ?_; first | refine n_postR rfl ?_ | refine n_postR (by simp only [Ax.result, Ax.resVs, Ax.resV, R4, Ax.look, sizeN, mkV, Nat.reduceEqDiff, reduceIte, axL]; rfl) ?_)
            | (first | with_reducible refine is_wd ?_ | with_reducible refine dk_wd ?_); refine go_dt _ (by simp only [Ax.runDK, Ax.runDT, Ax.runDops, Ax.run1d, Ax.recs, Ax.okPair, Ax.idsE, Ax.idsV, AOp.mems, AOp.isWrite, DRec.none, axD, Ax.runK, Ax.runOps, Ax.run1, Ax.wantA, Ax.step, Ax.ev, Ax.evs, Ax.evo, Ax.evp, Ax.look, Ax.putE, Ax.keepE, Ax.argsE, Ax.extr, Ax.binV, Ax.intBin, Ax.unV, Ax.addOff, Ax.sizeN, Ax.mkV, Ax.okV, reduceIte, Nat.reduceEqDiff, Nat.reduceAdd, Nat.reduceLeDiff, Nat.reduceLT, Nat.reduceSub, Nat.reduceMul, reduceCtorEq, Int.reduceEq, Int.reduceLT, Int.reduceLE, Int.reduceAdd, Int.reduceSub, Int.reduceNeg, Int.reduceToNat, undef, Value.cells, axL]; rfl) rfl ?_
            | (with_reducible first | refine end_reg (Ev.mono _ _) ?_ | refine end_dreg (Ev.mono _ _) ?_ | refine end_cond (Ev.mono _ _) ?_ | refine end_block (Ev.mono _ _) ?_ | refine end_loop (Ev.mono _ _) ?_))
        repeat' (with_reducible first | refine go_assoc ?_ (Ev.mono _ _) | refine go_skip ?_ | refine go_block ?_ | refine end_reg (Ev.mono _ _) ?_)
        refine go_callC _ (by simp only [Ax.runC, AOp.isCall, Ax.runK, Ax.runOps, Ax.run1, Ax.wantA, Ax.step, Ax.ev, Ax.evs, Ax.evo, Ax.evp, Ax.look, Ax.putE, Ax.keepE, Ax.argsE, Ax.extr, Ax.binV, Ax.intBin, Ax.unV, Ax.addOff, Ax.sizeN, Ax.mkV, Ax.okV, reduceIte, Nat.reduceEqDiff, Nat.reduceAdd, Nat.reduceLeDiff, Nat.reduceLT, Nat.reduceSub, Nat.reduceMul, reduceCtorEq, Int.reduceEq, Int.reduceLT, Int.reduceLE, Int.reduceAdd, Int.reduceSub, Int.reduceNeg, Int.reduceToNat, undef, Value.cells, axL]; rfl) rfl rfl (by simp only [Ax.wantA, Ax.look, reduceIte, Nat.reduceEqDiff, bq_t, bq_f, Bool.not_true, Bool.not_false]; try rfl) rfl (by simp only [Ax.runK, Ax.runOps, Ax.run1, Ax.wantA, Ax.step, Ax.ev, Ax.evs, Ax.evo, Ax.evp, Ax.look, Ax.putE, Ax.keepE, Ax.argsE, Ax.extr, Ax.binV, Ax.intBin, Ax.unV, Ax.addOff, Ax.sizeN, Ax.mkV, Ax.okV, reduceIte, Nat.reduceEqDiff, Nat.reduceAdd, Nat.reduceLeDiff, Nat.reduceLT, Nat.reduceSub, Nat.reduceMul, reduceCtorEq, Int.reduceEq, Int.reduceLT, Int.reduceLE, Int.reduceAdd, Int.reduceSub, Int.reduceNeg, Int.reduceToNat, undef, Value.cells, axL]; try rfl) ?_
        refine waiting1_spec XL (H3.pick 3 [2, 1] rfl) (hB.inv (by omega)).small (by have := hB.waitLen; omega) (fun wv S4 H4 => ?_)
        have hwl := SlT.len H4
        have hW : ∀ w ∈ waitL m, ∃ s ∈ o, w ∈ f s ∧ mp.lookup w = some s := fun w hw => by
          unfold waitL at hw
          rw [hB.rep.wait] at hw
          obtain ⟨s, hs, hw'⟩ := List.mem_flatMap.1 hw
          exact ⟨s, hs, hw', hS s hs w hw'⟩
        have hwn := hB.waitLen
        repeat' (first
            | (with_reducible first | refine go_assoc ?_ (Ev.mono _ _) | refine go_skip ?_ | refine go_fin ?_ | refine go_ret ?_ | refine go_ret0 ?_ | refine go_exit ?_ | refine go_exit0 ?_ | refine go_block ?_ | refine n_then ?_ | refine x_then ?_ | refine r_then ?_ | refine n_block ?_ | refine r_block ?_ | refine x_block ?_ | refine x_block_ne ?_ (by decide))
            | (with_reducible refine is_k ?_; refine go_k _ (by simp only [Ax.runK, Ax.runOps, Ax.run1, Ax.wantA, Ax.step, Ax.ev, Ax.evs, Ax.evo, Ax.evp, Ax.look, Ax.putE, Ax.keepE, Ax.argsE, Ax.extr, Ax.binV, Ax.intBin, Ax.unV, Ax.addOff, Ax.sizeN, Ax.mkV, Ax.okV, reduceIte, Nat.reduceEqDiff, Nat.reduceAdd, Nat.reduceLeDiff, Nat.reduceLT, Nat.reduceSub, Nat.reduceMul, reduceCtorEq, Int.reduceEq, Int.reduceLT, Int.reduceLE, Int.reduceAdd, Int.reduceSub, Int.reduceNeg, Int.reduceToNat, undef, Value.cells, axL, hwl]; rfl) rfl ?_)
            | (with_reducible refine cond_t ?_ ?_; · simp only [Ax.ev, Ax.look, reduceIte, Nat.reduceEqDiff])
            | (with_reducible refine cond_f ?_ ?_; · simp only [Ax.ev, Ax.look, reduceIte, Nat.reduceEqDiff])
            | (with_reducible refine is_rp ?_; first | refine r_postR rfl ?_ | refine r_postR (by simp only [Ax.result, Ax.resVs, Ax.resV, R4, Ax.look, sizeN, mkV, Nat.reduceEqDiff, reduceIte, axL, hwl]; rfl) ?_)
            | (with_reducible refine is_np ?_; first | refine n_postR rfl ?_ | refine n_postR (by simp only [Ax.result, Ax.resVs, Ax.resV, R4, Ax.look, sizeN, mkV, Nat.reduceEqDiff, reduceIte, axL, hwl]; rfl) ?_)
            | (first | with_reducible refine is_wd ?_ | with_reducible refine dk_wd ?_); refine go_dt _ (by simp only [Ax.runDK, Ax.runDT, Ax.runDops, Ax.run1d, Ax.recs, Ax.okPair, Ax.idsE, Ax.idsV, AOp.mems, AOp.isWrite, DRec.none, axD, Ax.runK, Ax.runOps, Ax.run1, Ax.wantA, Ax.step, Ax.ev, Ax.evs, Ax.evo, Ax.evp, Ax.look, Ax.putE, Ax.keepE, Ax.argsE, Ax.extr, Ax.binV, Ax.intBin, Ax.unV, Ax.addOff, Ax.sizeN, Ax.mkV, Ax.okV, reduceIte, Nat.reduceEqDiff, Nat.reduceAdd, Nat.reduceLeDiff, Nat.reduceLT, Nat.reduceSub, Nat.reduceMul, reduceCtorEq, Int.reduceEq, Int.reduceLT, Int.reduceLE, Int.reduceAdd, Int.reduceSub, Int.reduceNeg, Int.reduceToNat, undef, Value.cells, axL, hwl]; rfl) rfl ?_
            | (with_reducible first | refine end_reg (Ev.mono _ _) ?_ | refine end_dreg (Ev.mono _ _) ?_ | refine end_cond (Ev.mono _ _) ?_ | refine end_block (Ev.mono _ _) ?_ | refine end_loop (Ev.mono _ _) ?_))
        refine go_loop (Ev.mono _ _) (fun (j : Nat) ρ S' => j ≤ (waitL m).length ∧ ρ = [(71, .int .i64 j), (14, .int .i64 m.socket), (4, .map (some mb)), (15, .bool (((waitL m).take j).any fun w => decide (mp.lookup w ≠ some m.socket))), (69, wv), (3, .pointer (some ⟨L, 0, none⟩)), (28, v'), (29, .int .i64 l.length), (30, .int .i64 k), (5, .int .i64 m.passes), (12, .int .i64 m.owner), (70, .int .i64 (waitL m).length)] ∧ S' = S4) (fun j => (waitL m).length - j) 0 ⟨Nat.zero_le _, rfl, rfl⟩ ?_
        rintro j ρ S5 ⟨hj, rfl, rfl⟩
        have wj : IntKind.wrap .i64 ((j : Int) + 1) = ((j + 1 : Nat) : Int) := wrapI (n := (j : Int) + 1) (by unfold I64; omega)
        repeat' (first
            | (with_reducible first | refine go_assoc ?_ (Ev.mono _ _) | refine go_skip ?_ | refine go_fin ?_ | refine go_ret ?_ | refine go_ret0 ?_ | refine go_exit ?_ | refine go_exit0 ?_ | refine go_block ?_ | refine n_then ?_ | refine x_then ?_ | refine r_then ?_ | refine n_block ?_ | refine r_block ?_ | refine x_block ?_ | refine x_block_ne ?_ (by decide))
            | (with_reducible refine is_k ?_; refine go_k _ (by simp only [Ax.runK, Ax.runOps, Ax.run1, Ax.wantA, Ax.step, Ax.ev, Ax.evs, Ax.evo, Ax.evp, Ax.look, Ax.putE, Ax.keepE, Ax.argsE, Ax.extr, Ax.binV, Ax.intBin, Ax.unV, Ax.addOff, Ax.sizeN, Ax.mkV, Ax.okV, reduceIte, Nat.reduceEqDiff, Nat.reduceAdd, Nat.reduceLeDiff, Nat.reduceLT, Nat.reduceSub, Nat.reduceMul, reduceCtorEq, Int.reduceEq, Int.reduceLT, Int.reduceLE, Int.reduceAdd, Int.reduceSub, Int.reduceNeg, Int.reduceToNat, undef, Value.cells, axL]; rfl) rfl ?_)
            | (with_reducible refine cond_t ?_ ?_; · simp only [Ax.ev, Ax.look, reduceIte, Nat.reduceEqDiff])
            | (with_reducible refine cond_f ?_ ?_; · simp only [Ax.ev, Ax.look, reduceIte, Nat.reduceEqDiff])
            | (with_reducible refine is_rp ?_; first | refine r_postR rfl ?_ | refine r_postR (by simp only [Ax.result, Ax.resVs, Ax.resV, R4, Ax.look, sizeN, mkV, Nat.reduceEqDiff, reduceIte, axL]; rfl) ?_)
            | (with_reducible refine is_np ?_; first | refine n_postR rfl ?_ | refine n_postR (by simp only [Ax.result, Ax.resVs, Ax.resV, R4, Ax.look, sizeN, mkV, Nat.reduceEqDiff, reduceIte, axL]; rfl) ?_)
            | (first | with_reducible refine is_wd ?_ | with_reducible refine dk_wd ?_); refine go_dt _ (by simp only [Ax.runDK, Ax.runDT, Ax.runDops, Ax.run1d, Ax.recs, Ax.okPair, Ax.idsE, Ax.idsV, AOp.mems, AOp.isWrite, DRec.none, axD, Ax.runK, Ax.runOps, Ax.run1, Ax.wantA, Ax.step, Ax.ev, Ax.evs, Ax.evo, Ax.evp, Ax.look, Ax.putE, Ax.keepE, Ax.argsE, Ax.extr, Ax.binV, Ax.intBin, Ax.unV, Ax.addOff, Ax.sizeN, Ax.mkV, Ax.okV, reduceIte, Nat.reduceEqDiff, Nat.reduceAdd, Nat.reduceLeDiff, Nat.reduceLT, Nat.reduceSub, Nat.reduceMul, reduceCtorEq, Int.reduceEq, Int.reduceLT, Int.reduceLE, Int.reduceAdd, Int.reduceSub, Int.reduceNeg, Int.reduceToNat, undef, Value.cells, axL]; rfl) rfl ?_
            | (with_reducible first | refine end_reg (Ev.mono _ _) ?_ | refine end_dreg (Ev.mono _ _) ?_ | refine end_cond (Ev.mono _ _) ?_ | refine end_block (Ev.mono _ _) ?_ | refine end_loop (Ev.mono _ _) ?_))
        refine cond_d rfl (fun hlt => ?_) (fun hlt => ?_)
        · have hjl : j < (waitL m).length := by omega
          obtain ⟨b, a, f1, f2, f3, f4⟩ := RdT.at (SlT.read H4) hjl .i64
          have hlk := MapI.lookup (H4.pick 3 [2] rfl) (.int .i64 0) (waitL m)[j] false
          obtain ⟨s, hs, _, hls⟩ := hW _ (List.getElem_mem hjl)
          rw [hls] at hlk
          simp only [Bool.false_eq_true, if_false] at hlk
          have hany : ((waitL m).take (j + 1)).any (fun w => decide (mp.lookup w ≠ some m.socket)) = (((waitL m).take j).any (fun w => decide (mp.lookup w ≠ some m.socket)) || decide (s ≠ m.socket)) := by
            rw [List.take_succ_eq_append_getElem hjl, List.any_append]
            simp [hls]
          generalize ((waitL m).take j).any (fun w => decide (mp.lookup w ≠ some m.socket)) = bo at hany
          cases bo with
          | true =>
            repeat' (first
                | (with_reducible first | refine go_assoc ?_ (Ev.mono _ _) | refine go_skip ?_ | refine go_fin ?_ | refine go_ret ?_ | refine go_ret0 ?_ | refine go_exit ?_ | refine go_exit0 ?_ | refine go_block ?_ | refine n_then ?_ | refine x_then ?_ | refine r_then ?_ | refine n_block ?_ | refine r_block ?_ | refine x_block ?_ | refine x_block_ne ?_ (by decide))
                | (with_reducible refine is_k ?_; refine go_k _ (by simp only [Ax.runK, Ax.runOps, Ax.run1, Ax.wantA, Ax.step, Ax.ev, Ax.evs, Ax.evo, Ax.evp, Ax.look, Ax.putE, Ax.keepE, Ax.argsE, Ax.extr, Ax.binV, Ax.intBin, Ax.unV, Ax.addOff, Ax.sizeN, Ax.mkV, Ax.okV, reduceIte, Nat.reduceEqDiff, Nat.reduceAdd, Nat.reduceLeDiff, Nat.reduceLT, Nat.reduceSub, Nat.reduceMul, reduceCtorEq, Int.reduceEq, Int.reduceLT, Int.reduceLE, Int.reduceAdd, Int.reduceSub, Int.reduceNeg, Int.reduceToNat, undef, Value.cells, axL, f1, f3, wj, hlk]; rfl) rfl ?_)
                | (with_reducible refine cond_t ?_ ?_; · simp only [Ax.ev, Ax.look, reduceIte, Nat.reduceEqDiff])
                | (with_reducible refine cond_f ?_ ?_; · simp only [Ax.ev, Ax.look, reduceIte, Nat.reduceEqDiff])
                | (with_reducible refine is_rp ?_; first | refine r_postR rfl ?_ | refine r_postR (by simp only [Ax.result, Ax.resVs, Ax.resV, R4, Ax.look, sizeN, mkV, Nat.reduceEqDiff, reduceIte, axL, f1, f3, wj, hlk]; rfl) ?_)
                | (with_reducible refine is_np ?_; first | refine n_postR rfl ?_ | refine n_postR (by simp only [Ax.result, Ax.resVs, Ax.resV, R4, Ax.look, sizeN, mkV, Nat.reduceEqDiff, reduceIte, axL, f1, f3, wj, hlk]; rfl) ?_)
                | (first | with_reducible refine is_wd ?_ | with_reducible refine dk_wd ?_); refine go_dt _ (by simp only [Ax.runDK, Ax.runDT, Ax.runDops, Ax.run1d, Ax.recs, Ax.okPair, Ax.idsE, Ax.idsV, AOp.mems, AOp.isWrite, DRec.none, axD, Ax.runK, Ax.runOps, Ax.run1, Ax.wantA, Ax.step, Ax.ev, Ax.evs, Ax.evo, Ax.evp, Ax.look, Ax.putE, Ax.keepE, Ax.argsE, Ax.extr, Ax.binV, Ax.intBin, Ax.unV, Ax.addOff, Ax.sizeN, Ax.mkV, Ax.okV, reduceIte, Nat.reduceEqDiff, Nat.reduceAdd, Nat.reduceLeDiff, Nat.reduceLT, Nat.reduceSub, Nat.reduceMul, reduceCtorEq, Int.reduceEq, Int.reduceLT, Int.reduceLE, Int.reduceAdd, Int.reduceSub, Int.reduceNeg, Int.reduceToNat, undef, Value.cells, axL, f1, f3, wj, hlk]; rfl) rfl ?_
                | (with_reducible first | refine end_reg (Ev.mono _ _) ?_ | refine end_dreg (Ev.mono _ _) ?_ | refine end_cond (Ev.mono _ _) ?_ | refine end_block (Ev.mono _ _) ?_ | refine end_loop (Ev.mono _ _) ?_))
            exact ⟨j + 1, by omega, hjl, by rw [hany]; rfl, rfl⟩
          | false =>
            repeat' (first
                | (with_reducible first | refine go_assoc ?_ (Ev.mono _ _) | refine go_skip ?_ | refine go_fin ?_ | refine go_ret ?_ | refine go_ret0 ?_ | refine go_exit ?_ | refine go_exit0 ?_ | refine go_block ?_ | refine n_then ?_ | refine x_then ?_ | refine r_then ?_ | refine n_block ?_ | refine r_block ?_ | refine x_block ?_ | refine x_block_ne ?_ (by decide))
                | (with_reducible refine is_k ?_; refine go_k _ (by simp only [Ax.runK, Ax.runOps, Ax.run1, Ax.wantA, Ax.step, Ax.ev, Ax.evs, Ax.evo, Ax.evp, Ax.look, Ax.putE, Ax.keepE, Ax.argsE, Ax.extr, Ax.binV, Ax.intBin, Ax.unV, Ax.addOff, Ax.sizeN, Ax.mkV, Ax.okV, reduceIte, Nat.reduceEqDiff, Nat.reduceAdd, Nat.reduceLeDiff, Nat.reduceLT, Nat.reduceSub, Nat.reduceMul, reduceCtorEq, Int.reduceEq, Int.reduceLT, Int.reduceLE, Int.reduceAdd, Int.reduceSub, Int.reduceNeg, Int.reduceToNat, undef, Value.cells, axL, f1, f3, wj, hlk]; rfl) rfl ?_)
                | (with_reducible refine cond_t ?_ ?_; · simp only [Ax.ev, Ax.look, reduceIte, Nat.reduceEqDiff])
                | (with_reducible refine cond_f ?_ ?_; · simp only [Ax.ev, Ax.look, reduceIte, Nat.reduceEqDiff])
                | (with_reducible refine is_rp ?_; first | refine r_postR rfl ?_ | refine r_postR (by simp only [Ax.result, Ax.resVs, Ax.resV, R4, Ax.look, sizeN, mkV, Nat.reduceEqDiff, reduceIte, axL, f1, f3, wj, hlk]; rfl) ?_)
                | (with_reducible refine is_np ?_; first | refine n_postR rfl ?_ | refine n_postR (by simp only [Ax.result, Ax.resVs, Ax.resV, R4, Ax.look, sizeN, mkV, Nat.reduceEqDiff, reduceIte, axL, f1, f3, wj, hlk]; rfl) ?_)
                | (first | with_reducible refine is_wd ?_ | with_reducible refine dk_wd ?_); refine go_dt _ (by simp only [Ax.runDK, Ax.runDT, Ax.runDops, Ax.run1d, Ax.recs, Ax.okPair, Ax.idsE, Ax.idsV, AOp.mems, AOp.isWrite, DRec.none, axD, Ax.runK, Ax.runOps, Ax.run1, Ax.wantA, Ax.step, Ax.ev, Ax.evs, Ax.evo, Ax.evp, Ax.look, Ax.putE, Ax.keepE, Ax.argsE, Ax.extr, Ax.binV, Ax.intBin, Ax.unV, Ax.addOff, Ax.sizeN, Ax.mkV, Ax.okV, reduceIte, Nat.reduceEqDiff, Nat.reduceAdd, Nat.reduceLeDiff, Nat.reduceLT, Nat.reduceSub, Nat.reduceMul, reduceCtorEq, Int.reduceEq, Int.reduceLT, Int.reduceLE, Int.reduceAdd, Int.reduceSub, Int.reduceNeg, Int.reduceToNat, undef, Value.cells, axL, f1, f3, wj, hlk]; rfl) rfl ?_
                | (with_reducible first | refine end_reg (Ev.mono _ _) ?_ | refine end_dreg (Ev.mono _ _) ?_ | refine end_cond (Ev.mono _ _) ?_ | refine end_block (Ev.mono _ _) ?_ | refine end_loop (Ev.mono _ _) ?_))
            exact ⟨j + 1, by omega, hjl, by rw [hany]; rfl, rfl⟩
        · have hjn : j = (waitL m).length := by omega
          subst hjn
          rw [List.take_of_length_le (Nat.le_refl _)]
          repeat' (first
              | (with_reducible first | refine go_assoc ?_ (Ev.mono _ _) | refine go_skip ?_ | refine go_fin ?_ | refine go_ret ?_ | refine go_ret0 ?_ | refine go_exit ?_ | refine go_exit0 ?_ | refine go_block ?_ | refine n_then ?_ | refine x_then ?_ | refine r_then ?_ | refine n_block ?_ | refine r_block ?_ | refine x_block ?_ | refine x_block_ne ?_ (by decide))
              | (with_reducible refine is_k ?_; refine go_k _ (by simp only [Ax.runK, Ax.runOps, Ax.run1, Ax.wantA, Ax.step, Ax.ev, Ax.evs, Ax.evo, Ax.evp, Ax.look, Ax.putE, Ax.keepE, Ax.argsE, Ax.extr, Ax.binV, Ax.intBin, Ax.unV, Ax.addOff, Ax.sizeN, Ax.mkV, Ax.okV, reduceIte, Nat.reduceEqDiff, Nat.reduceAdd, Nat.reduceLeDiff, Nat.reduceLT, Nat.reduceSub, Nat.reduceMul, reduceCtorEq, Int.reduceEq, Int.reduceLT, Int.reduceLE, Int.reduceAdd, Int.reduceSub, Int.reduceNeg, Int.reduceToNat, undef, Value.cells, axL]; rfl) rfl ?_)
              | (with_reducible refine cond_t ?_ ?_; · simp only [Ax.ev, Ax.look, reduceIte, Nat.reduceEqDiff])
              | (with_reducible refine cond_f ?_ ?_; · simp only [Ax.ev, Ax.look, reduceIte, Nat.reduceEqDiff])
              | (with_reducible refine is_rp ?_; first | refine r_postR rfl ?_ | refine r_postR (by simp only [Ax.result, Ax.resVs, Ax.resV, R4, Ax.look, sizeN, mkV, Nat.reduceEqDiff, reduceIte, axL]; rfl) ?_)
              | (with_reducible refine is_np ?_; first | refine n_postR rfl ?_ | refine n_postR (by simp only [Ax.result, Ax.resVs, Ax.resV, R4, Ax.look, sizeN, mkV, Nat.reduceEqDiff, reduceIte, axL]; rfl) ?_)
              | (first | with_reducible refine is_wd ?_ | with_reducible refine dk_wd ?_); refine go_dt _ (by simp only [Ax.runDK, Ax.runDT, Ax.runDops, Ax.run1d, Ax.recs, Ax.okPair, Ax.idsE, Ax.idsV, AOp.mems, AOp.isWrite, DRec.none, axD, Ax.runK, Ax.runOps, Ax.run1, Ax.wantA, Ax.step, Ax.ev, Ax.evs, Ax.evo, Ax.evp, Ax.look, Ax.putE, Ax.keepE, Ax.argsE, Ax.extr, Ax.binV, Ax.intBin, Ax.unV, Ax.addOff, Ax.sizeN, Ax.mkV, Ax.okV, reduceIte, Nat.reduceEqDiff, Nat.reduceAdd, Nat.reduceLeDiff, Nat.reduceLT, Nat.reduceSub, Nat.reduceMul, reduceCtorEq, Int.reduceEq, Int.reduceLT, Int.reduceLE, Int.reduceAdd, Int.reduceSub, Int.reduceNeg, Int.reduceToNat, undef, Value.cells, axL]; rfl) rfl ?_
              | (with_reducible first | refine end_reg (Ev.mono _ _) ?_ | refine end_dreg (Ev.mono _ _) ?_ | refine end_cond (Ev.mono _ _) ?_ | refine end_block (Ev.mono _ _) ?_ | refine end_loop (Ev.mono _ _) ?_))
          obtain ⟨bo, hbo⟩ : ∃ bo, bo = (waitL m).any fun w => decide (mp.lookup w ≠ some m.socket) := ⟨_, rfl⟩
          rw [← hbo]
          have hoth : bo = true → ∃ s ∈ o, s ≠ m.socket := fun hb => by
            rw [hbo, List.any_eq_true] at hb
            obtain ⟨w, hw, hd⟩ := hb
            obtain ⟨s, hs, _, hl⟩ := hW w hw
            refine ⟨s, hs, fun e => ?_⟩
            rw [hl, e] at hd
            simp at hd
          repeat' (with_reducible first | refine go_assoc ?_ (Ev.mono _ _) | refine go_skip ?_ | refine go_block ?_ | refine end_reg (Ev.mono _ _) ?_)
          refine go_callC _ (by simp only [Ax.runC, AOp.isCall, Ax.runK, Ax.runOps, Ax.run1, Ax.wantA, Ax.step, Ax.ev, Ax.evs, Ax.evo, Ax.evp, Ax.look, Ax.putE, Ax.keepE, Ax.argsE, Ax.extr, Ax.binV, Ax.intBin, Ax.unV, Ax.addOff, Ax.sizeN, Ax.mkV, Ax.okV, reduceIte, Nat.reduceEqDiff, Nat.reduceAdd, Nat.reduceLeDiff, Nat.reduceLT, Nat.reduceSub, Nat.reduceMul, reduceCtorEq, Int.reduceEq, Int.reduceLT, Int.reduceLE, Int.reduceAdd, Int.reduceSub, Int.reduceNeg, Int.reduceToNat, undef, Value.cells, axL]; rfl) rfl rfl (by simp only [Ax.wantA, Ax.look, reduceIte, Nat.reduceEqDiff, bq_t, bq_f, Bool.not_true, Bool.not_false]; try rfl) rfl (by simp only [Ax.runK, Ax.runOps, Ax.run1, Ax.wantA, Ax.step, Ax.ev, Ax.evs, Ax.evo, Ax.evp, Ax.look, Ax.putE, Ax.keepE, Ax.argsE, Ax.extr, Ax.binV, Ax.intBin, Ax.unV, Ax.addOff, Ax.sizeN, Ax.mkV, Ax.okV, reduceIte, Nat.reduceEqDiff, Nat.reduceAdd, Nat.reduceLeDiff, Nat.reduceLT, Nat.reduceSub, Nat.reduceMul, reduceCtorEq, Int.reduceEq, Int.reduceLT, Int.reduceLE, Int.reduceAdd, Int.reduceSub, Int.reduceNeg, Int.reduceToNat, undef, Value.cells, axL]; try rfl) ?_
          refine give1_spec XL (H4.pick 3 [1, 2] rfl) (hB.inv (by omega)) m.owner (fun S6 H6 => ?_)
          rcases hB.give m.owner with ⟨h, _⟩ | ⟨_, _, ho, hg, hB'⟩ | ⟨_, _, to, t', ts, hto, hft, rows', so, ps, hg, hcase⟩
          · rcases h with h | h
            · rw [hh] at h; cases h
            · exact absurd rfl h
          · rw [hg] at H6 hB' ⊢
            repeat' (first
                | (with_reducible first | refine go_assoc ?_ (Ev.mono _ _) | refine go_skip ?_ | refine go_fin ?_ | refine go_ret ?_ | refine go_ret0 ?_ | refine go_exit ?_ | refine go_exit0 ?_ | refine go_block ?_ | refine n_then ?_ | refine x_then ?_ | refine r_then ?_ | refine n_block ?_ | refine r_block ?_ | refine x_block ?_ | refine x_block_ne ?_ (by decide))
                | (with_reducible refine is_k ?_; refine go_k _ (by simp only [Ax.runK, Ax.runOps, Ax.run1, Ax.wantA, Ax.step, Ax.ev, Ax.evs, Ax.evo, Ax.evp, Ax.look, Ax.putE, Ax.keepE, Ax.argsE, Ax.extr, Ax.binV, Ax.intBin, Ax.unV, Ax.addOff, Ax.sizeN, Ax.mkV, Ax.okV, reduceIte, Nat.reduceEqDiff, Nat.reduceAdd, Nat.reduceLeDiff, Nat.reduceLT, Nat.reduceSub, Nat.reduceMul, reduceCtorEq, Int.reduceEq, Int.reduceLT, Int.reduceLE, Int.reduceAdd, Int.reduceSub, Int.reduceNeg, Int.reduceToNat, undef, Value.cells, axL, wk]; rfl) rfl ?_)
                | (with_reducible refine cond_t ?_ ?_; · simp only [Ax.ev, Ax.look, reduceIte, Nat.reduceEqDiff])
                | (with_reducible refine cond_f ?_ ?_; · simp only [Ax.ev, Ax.look, reduceIte, Nat.reduceEqDiff])
                | (with_reducible refine is_rp ?_; first | refine r_postR rfl ?_ | refine r_postR (by simp only [Ax.result, Ax.resVs, Ax.resV, R4, Ax.look, sizeN, mkV, Nat.reduceEqDiff, reduceIte, axL, wk]; rfl) ?_)
                | (with_reducible refine is_np ?_; first | refine n_postR rfl ?_ | refine n_postR (by simp only [Ax.result, Ax.resVs, Ax.resV, R4, Ax.look, sizeN, mkV, Nat.reduceEqDiff, reduceIte, axL, wk]; rfl) ?_)
                | (first | with_reducible refine is_wd ?_ | with_reducible refine dk_wd ?_); refine go_dt _ (by simp only [Ax.runDK, Ax.runDT, Ax.runDops, Ax.run1d, Ax.recs, Ax.okPair, Ax.idsE, Ax.idsV, AOp.mems, AOp.isWrite, DRec.none, axD, Ax.runK, Ax.runOps, Ax.run1, Ax.wantA, Ax.step, Ax.ev, Ax.evs, Ax.evo, Ax.evp, Ax.look, Ax.putE, Ax.keepE, Ax.argsE, Ax.extr, Ax.binV, Ax.intBin, Ax.unV, Ax.addOff, Ax.sizeN, Ax.mkV, Ax.okV, reduceIte, Nat.reduceEqDiff, Nat.reduceAdd, Nat.reduceLeDiff, Nat.reduceLT, Nat.reduceSub, Nat.reduceMul, reduceCtorEq, Int.reduceEq, Int.reduceLT, Int.reduceLE, Int.reduceAdd, Int.reduceSub, Int.reduceNeg, Int.reduceToNat, undef, Value.cells, axL, wk]; rfl) rfl ?_
                | (with_reducible first | refine end_reg (Ev.mono _ _) ?_ | refine end_dreg (Ev.mono _ _) ?_ | refine end_cond (Ev.mono _ _) ?_ | refine end_block (Ev.mono _ _) ?_ | refine end_loop (Ev.mono _ _) ?_))
            exact ⟨(k + 1, _, _, _, mp), by simp; omega, ⟨by simp; omega, hB', fun s hs => absurd hs (by simp), rfl, H6.pick 2 [1, 0] rfl⟩⟩
          · rw [hg] at H6 hcase ⊢
            repeat' (first
                | (with_reducible first | refine go_assoc ?_ (Ev.mono _ _) | refine go_skip ?_ | refine go_fin ?_ | refine go_ret ?_ | refine go_ret0 ?_ | refine go_exit ?_ | refine go_exit0 ?_ | refine go_block ?_ | refine n_then ?_ | refine x_then ?_ | refine r_then ?_ | refine n_block ?_ | refine r_block ?_ | refine x_block ?_ | refine x_block_ne ?_ (by decide))
                | (with_reducible refine is_k ?_; refine go_k _ (by simp only [Ax.runK, Ax.runOps, Ax.run1, Ax.wantA, Ax.step, Ax.ev, Ax.evs, Ax.evo, Ax.evp, Ax.look, Ax.putE, Ax.keepE, Ax.argsE, Ax.extr, Ax.binV, Ax.intBin, Ax.unV, Ax.addOff, Ax.sizeN, Ax.mkV, Ax.okV, reduceIte, Nat.reduceEqDiff, Nat.reduceAdd, Nat.reduceLeDiff, Nat.reduceLT, Nat.reduceSub, Nat.reduceMul, reduceCtorEq, Int.reduceEq, Int.reduceLT, Int.reduceLE, Int.reduceAdd, Int.reduceSub, Int.reduceNeg, Int.reduceToNat, undef, Value.cells, axL]; rfl) rfl ?_)
                | (with_reducible refine cond_t ?_ ?_; · simp only [Ax.ev, Ax.look, reduceIte, Nat.reduceEqDiff])
                | (with_reducible refine cond_f ?_ ?_; · simp only [Ax.ev, Ax.look, reduceIte, Nat.reduceEqDiff])
                | (with_reducible refine is_rp ?_; first | refine r_postR rfl ?_ | refine r_postR (by simp only [Ax.result, Ax.resVs, Ax.resV, R4, Ax.look, sizeN, mkV, Nat.reduceEqDiff, reduceIte, axL]; rfl) ?_)
                | (with_reducible refine is_np ?_; first | refine n_postR rfl ?_ | refine n_postR (by simp only [Ax.result, Ax.resVs, Ax.resV, R4, Ax.look, sizeN, mkV, Nat.reduceEqDiff, reduceIte, axL]; rfl) ?_)
                | (first | with_reducible refine is_wd ?_ | with_reducible refine dk_wd ?_); refine go_dt _ (by simp only [Ax.runDK, Ax.runDT, Ax.runDops, Ax.run1d, Ax.recs, Ax.okPair, Ax.idsE, Ax.idsV, AOp.mems, AOp.isWrite, DRec.none, axD, Ax.runK, Ax.runOps, Ax.run1, Ax.wantA, Ax.step, Ax.ev, Ax.evs, Ax.evo, Ax.evp, Ax.look, Ax.putE, Ax.keepE, Ax.argsE, Ax.extr, Ax.binV, Ax.intBin, Ax.unV, Ax.addOff, Ax.sizeN, Ax.mkV, Ax.okV, reduceIte, Nat.reduceEqDiff, Nat.reduceAdd, Nat.reduceLeDiff, Nat.reduceLT, Nat.reduceSub, Nat.reduceMul, reduceCtorEq, Int.reduceEq, Int.reduceLT, Int.reduceLE, Int.reduceAdd, Int.reduceSub, Int.reduceNeg, Int.reduceToNat, undef, Value.cells, axL]; rfl) rfl ?_
                | (with_reducible first | refine end_reg (Ev.mono _ _) ?_ | refine end_dreg (Ev.mono _ _) ?_ | refine end_cond (Ev.mono _ _) ?_ | refine end_block (Ev.mono _ _) ?_ | refine end_loop (Ev.mono _ _) ?_))
            have hlk := MapI.lookup (H6.pick 3 [1] rfl) (.int .i64 0) t' false
            rw [hS to hto t' (by rw [hft]; simp)] at hlk
            simp only [Bool.false_eq_true, if_false] at hlk
            have hso : so = to := by rcases hcase with ⟨h1, h2, _⟩ | ⟨h1, h2, _⟩ <;> rw [h2]; exact h1.symm
            obtain ⟨m6, hm6⟩ : ∃ m6 : LockM, m6 = ⟨m.held, t', so, ps, rows'⟩ := ⟨_, rfl⟩
            have hs6 : m6.socket = to := by rw [hm6]; exact hso
            have H7 : St R (LocksA L [m6] :: MapI (Value.int .i64) mb mp :: F) S6 := by rw [hm6]; exact H6
            obtain ⟨es, ck, hmok, H8⟩ := MapI.open' (H7.pick 2 [1, 0] rfl)
            have hget := H8.get
            repeat' (with_reducible first | refine go_assoc ?_ (Ev.mono _ _) | refine go_skip ?_ | refine go_block ?_ | refine end_dreg (Ev.mono _ _) ?_ | refine go_d ?_)
            refine go_dcallSC _ (by simp only [Ax.runDC, AOp.isCall, Ax.runDK, Ax.runDT, Ax.runDops, Ax.run1d, Ax.recs, Ax.okPair, Ax.idsE, Ax.idsV, AOp.mems, AOp.isWrite, DRec.none, axD, Ax.runK, Ax.runOps, Ax.run1, Ax.wantA, Ax.step, Ax.ev, Ax.evs, Ax.evo, Ax.evp, Ax.look, Ax.putE, Ax.keepE, Ax.argsE, Ax.extr, Ax.binV, Ax.intBin, Ax.unV, Ax.addOff, Ax.sizeN, Ax.mkV, Ax.okV, reduceIte, Nat.reduceEqDiff, Nat.reduceAdd, Nat.reduceLeDiff, Nat.reduceLT, Nat.reduceSub, Nat.reduceMul, reduceCtorEq, Int.reduceEq, Int.reduceLT, Int.reduceLE, Int.reduceAdd, Int.reduceSub, Int.reduceNeg, Int.reduceToNat, undef, Value.cells, axL, hlk, hget]; rfl) rfl rfl (by simp only [Ax.wantA, Ax.look, reduceIte, Nat.reduceEqDiff, bq_t, bq_f, Bool.not_true, Bool.not_false]; try rfl) rfl (by simp only [Ax.runK, Ax.runOps, Ax.run1, Ax.wantA, Ax.step, Ax.ev, Ax.evs, Ax.evo, Ax.evp, Ax.look, Ax.putE, Ax.keepE, Ax.argsE, Ax.extr, Ax.binV, Ax.intBin, Ax.unV, Ax.addOff, Ax.sizeN, Ax.mkV, Ax.okV, reduceIte, Nat.reduceEqDiff, Nat.reduceAdd, Nat.reduceLeDiff, Nat.reduceLT, Nat.reduceSub, Nat.reduceMul, reduceCtorEq, Int.reduceEq, Int.reduceLT, Int.reduceLE, Int.reduceAdd, Int.reduceSub, Int.reduceNeg, Int.reduceToNat, undef, Value.cells, axL, hlk, hget]; try rfl) _ (by simp only [hidden, AS.roAt, AObj.ro, List.filter_cons, List.filter_nil, Nat.sub_self, List.range'_zero, Nat.add_sub_cancel_left, List.range'_one, List.cons_append, List.nil_append, List.append_nil, Ax.runDK, Ax.runDT, Ax.runDops, Ax.run1d, Ax.recs, Ax.okPair, Ax.idsE, Ax.idsV, AOp.mems, AOp.isWrite, DRec.none, axD, Ax.runK, Ax.runOps, Ax.run1, Ax.wantA, Ax.step, Ax.ev, Ax.evs, Ax.evo, Ax.evp, Ax.look, Ax.putE, Ax.keepE, Ax.argsE, Ax.extr, Ax.binV, Ax.intBin, Ax.unV, Ax.addOff, Ax.sizeN, Ax.mkV, Ax.okV, reduceIte, Nat.reduceEqDiff, Nat.reduceAdd, Nat.reduceLeDiff, Nat.reduceLT, Nat.reduceSub, Nat.reduceMul, reduceCtorEq, Int.reduceEq, Int.reduceLT, Int.reduceLE, Int.reduceAdd, Int.reduceSub, Int.reduceNeg, Int.reduceToNat, undef, Value.cells, axL, hlk, hget]; try rfl) [LocksA L [m6]] [obj mb (.map es ck)] F (H8.pick 2 [1, 0] rfl) (fun j hj => ⟨_, by simp at hj; subst hj; exact List.mem_singleton.2 rfl⟩) (fun E T HT => ?_)
            refine socket1_spec XL HT ⟨[LocksA L [m6]], HT, fun J HJ => ?_⟩
            rw [hs6]
            have H9 := MapI.close (HJ.pick 2 [1, 0] rfl) hmok
            have hlk2 := MapI.lookup H9 (.int .i64 0) t' false
            rw [hS to hto t' (by rw [hft]; simp)] at hlk2
            simp only [Bool.false_eq_true, if_false] at hlk2
            have hS' : Socks (cutO o f to) (upF f to ts) mp := fun s hs t ht => by
              have hs' : s ∈ o := by
                unfold cutO at hs
                split at hs
                · exact List.mem_of_mem_erase hs
                · exact hs
              refine hS s hs' t ?_
              by_cases e : s = to
              · subst e; rw [upF_same] at ht; rw [hft]; simp [ht]
              · rw [upF_ne e] at ht; exact ht
            rcases hcase with ⟨h1, h2, h3, h4, hB'⟩ | ⟨h1, h2, h3, h4, ⟨pre, post, h5, h6⟩, hB'⟩
            · have wp : IntKind.wrap .i64 (m.passes + 1) = m.passes + 1 := wrapI (by have := hB.ps0; have := hB.psk; unfold I64; omega)
              have hlt4 : bo = true → ¬ 3 < m.passes + 1 := fun hb => by
                obtain ⟨s, hs, hne⟩ := hoth hb
                rcases h4 with h4 | h4
                · omega
                · exfalso
                  obtain ⟨x, hx⟩ := List.length_eq_one_iff.1 h4
                  rw [hx] at hs hto
                  simp only [List.mem_singleton] at hs hto
                  exact hne (by rw [hs, ← hto, h1])
              cases hb : bo with
              | true =>
                have := hlt4 hb
                repeat' (first
                    | (with_reducible first | refine go_assoc ?_ (Ev.mono _ _) | refine go_skip ?_ | refine go_fin ?_ | refine go_ret ?_ | refine go_ret0 ?_ | refine go_exit ?_ | refine go_exit0 ?_ | refine go_block ?_ | refine n_then ?_ | refine x_then ?_ | refine r_then ?_ | refine n_block ?_ | refine r_block ?_ | refine x_block ?_ | refine x_block_ne ?_ (by decide))
                    | (with_reducible refine is_k ?_; refine go_k _ (by simp only [Ax.runK, Ax.runOps, Ax.run1, Ax.wantA, Ax.step, Ax.ev, Ax.evs, Ax.evo, Ax.evp, Ax.look, Ax.putE, Ax.keepE, Ax.argsE, Ax.extr, Ax.binV, Ax.intBin, Ax.unV, Ax.addOff, Ax.sizeN, Ax.mkV, Ax.okV, reduceIte, Nat.reduceEqDiff, Nat.reduceAdd, Nat.reduceLeDiff, Nat.reduceLT, Nat.reduceSub, Nat.reduceMul, reduceCtorEq, Int.reduceEq, Int.reduceLT, Int.reduceLE, Int.reduceAdd, Int.reduceSub, Int.reduceNeg, Int.reduceToNat, undef, Value.cells, axL, hlk2, h1, wp, this, wk]; rfl) rfl ?_)
                    | (with_reducible refine cond_t ?_ ?_; · simp only [Ax.ev, Ax.look, reduceIte, Nat.reduceEqDiff])
                    | (with_reducible refine cond_f ?_ ?_; · simp only [Ax.ev, Ax.look, reduceIte, Nat.reduceEqDiff])
                    | (with_reducible refine is_rp ?_; first | refine r_postR rfl ?_ | refine r_postR (by simp only [Ax.result, Ax.resVs, Ax.resV, R4, Ax.look, sizeN, mkV, Nat.reduceEqDiff, reduceIte, axL, hlk2, h1, wp, this, wk]; rfl) ?_)
                    | (with_reducible refine is_np ?_; first | refine n_postR rfl ?_ | refine n_postR (by simp only [Ax.result, Ax.resVs, Ax.resV, R4, Ax.look, sizeN, mkV, Nat.reduceEqDiff, reduceIte, axL, hlk2, h1, wp, this, wk]; rfl) ?_)
                    | (first | with_reducible refine is_wd ?_ | with_reducible refine dk_wd ?_); refine go_dt _ (by simp only [Ax.runDK, Ax.runDT, Ax.runDops, Ax.run1d, Ax.recs, Ax.okPair, Ax.idsE, Ax.idsV, AOp.mems, AOp.isWrite, DRec.none, axD, Ax.runK, Ax.runOps, Ax.run1, Ax.wantA, Ax.step, Ax.ev, Ax.evs, Ax.evo, Ax.evp, Ax.look, Ax.putE, Ax.keepE, Ax.argsE, Ax.extr, Ax.binV, Ax.intBin, Ax.unV, Ax.addOff, Ax.sizeN, Ax.mkV, Ax.okV, reduceIte, Nat.reduceEqDiff, Nat.reduceAdd, Nat.reduceLeDiff, Nat.reduceLT, Nat.reduceSub, Nat.reduceMul, reduceCtorEq, Int.reduceEq, Int.reduceLT, Int.reduceLE, Int.reduceAdd, Int.reduceSub, Int.reduceNeg, Int.reduceToNat, undef, Value.cells, axL, hlk2, h1, wp, this, wk]; rfl) rfl ?_
                    | (with_reducible first | refine end_reg (Ev.mono _ _) ?_ | refine end_dreg (Ev.mono _ _) ?_ | refine end_cond (Ev.mono _ _) ?_ | refine end_block (Ev.mono _ _) ?_ | refine end_loop (Ev.mono _ _) ?_))
                exact ⟨(k + 1, m6, cutO o f to, upF f to ts, mp), by simp; omega, ⟨by simp; omega, hm6 ▸ hB', hS', by rw [hm6, h3], H9⟩⟩
              | false =>
                repeat' (first
                    | (with_reducible first | refine go_assoc ?_ (Ev.mono _ _) | refine go_skip ?_ | refine go_fin ?_ | refine go_ret ?_ | refine go_ret0 ?_ | refine go_exit ?_ | refine go_exit0 ?_ | refine go_block ?_ | refine n_then ?_ | refine x_then ?_ | refine r_then ?_ | refine n_block ?_ | refine r_block ?_ | refine x_block ?_ | refine x_block_ne ?_ (by decide))
                    | (with_reducible refine is_k ?_; refine go_k _ (by simp only [Ax.runK, Ax.runOps, Ax.run1, Ax.wantA, Ax.step, Ax.ev, Ax.evs, Ax.evo, Ax.evp, Ax.look, Ax.putE, Ax.keepE, Ax.argsE, Ax.extr, Ax.binV, Ax.intBin, Ax.unV, Ax.addOff, Ax.sizeN, Ax.mkV, Ax.okV, reduceIte, Nat.reduceEqDiff, Nat.reduceAdd, Nat.reduceLeDiff, Nat.reduceLT, Nat.reduceSub, Nat.reduceMul, reduceCtorEq, Int.reduceEq, Int.reduceLT, Int.reduceLE, Int.reduceAdd, Int.reduceSub, Int.reduceNeg, Int.reduceToNat, undef, Value.cells, axL, hlk2, h1, wp, wk]; rfl) rfl ?_)
                    | (with_reducible refine cond_t ?_ ?_; · simp only [Ax.ev, Ax.look, reduceIte, Nat.reduceEqDiff])
                    | (with_reducible refine cond_f ?_ ?_; · simp only [Ax.ev, Ax.look, reduceIte, Nat.reduceEqDiff])
                    | (with_reducible refine is_rp ?_; first | refine r_postR rfl ?_ | refine r_postR (by simp only [Ax.result, Ax.resVs, Ax.resV, R4, Ax.look, sizeN, mkV, Nat.reduceEqDiff, reduceIte, axL, hlk2, h1, wp, wk]; rfl) ?_)
                    | (with_reducible refine is_np ?_; first | refine n_postR rfl ?_ | refine n_postR (by simp only [Ax.result, Ax.resVs, Ax.resV, R4, Ax.look, sizeN, mkV, Nat.reduceEqDiff, reduceIte, axL, hlk2, h1, wp, wk]; rfl) ?_)
                    | (first | with_reducible refine is_wd ?_ | with_reducible refine dk_wd ?_); refine go_dt _ (by simp only [Ax.runDK, Ax.runDT, Ax.runDops, Ax.run1d, Ax.recs, Ax.okPair, Ax.idsE, Ax.idsV, AOp.mems, AOp.isWrite, DRec.none, axD, Ax.runK, Ax.runOps, Ax.run1, Ax.wantA, Ax.step, Ax.ev, Ax.evs, Ax.evo, Ax.evp, Ax.look, Ax.putE, Ax.keepE, Ax.argsE, Ax.extr, Ax.binV, Ax.intBin, Ax.unV, Ax.addOff, Ax.sizeN, Ax.mkV, Ax.okV, reduceIte, Nat.reduceEqDiff, Nat.reduceAdd, Nat.reduceLeDiff, Nat.reduceLT, Nat.reduceSub, Nat.reduceMul, reduceCtorEq, Int.reduceEq, Int.reduceLT, Int.reduceLE, Int.reduceAdd, Int.reduceSub, Int.reduceNeg, Int.reduceToNat, undef, Value.cells, axL, hlk2, h1, wp, wk]; rfl) rfl ?_
                    | (with_reducible first | refine end_reg (Ev.mono _ _) ?_ | refine end_dreg (Ev.mono _ _) ?_ | refine end_cond (Ev.mono _ _) ?_ | refine end_block (Ev.mono _ _) ?_ | refine end_loop (Ev.mono _ _) ?_))
                exact ⟨(k + 1, m6, cutO o f to, upF f to ts, mp), by simp; omega, ⟨by simp; omega, hm6 ▸ hB', hS', by rw [hm6, h3], H9⟩⟩
            · repeat' (first
                  | (with_reducible first | refine go_assoc ?_ (Ev.mono _ _) | refine go_skip ?_ | refine go_fin ?_ | refine go_ret ?_ | refine go_ret0 ?_ | refine go_exit ?_ | refine go_exit0 ?_ | refine go_block ?_ | refine n_then ?_ | refine x_then ?_ | refine r_then ?_ | refine n_block ?_ | refine r_block ?_ | refine x_block ?_ | refine x_block_ne ?_ (by decide))
                  | (with_reducible refine is_k ?_; refine go_k _ (by simp only [Ax.runK, Ax.runOps, Ax.run1, Ax.wantA, Ax.step, Ax.ev, Ax.evs, Ax.evo, Ax.evp, Ax.look, Ax.putE, Ax.keepE, Ax.argsE, Ax.extr, Ax.binV, Ax.intBin, Ax.unV, Ax.addOff, Ax.sizeN, Ax.mkV, Ax.okV, reduceIte, Nat.reduceEqDiff, Nat.reduceAdd, Nat.reduceLeDiff, Nat.reduceLT, Nat.reduceSub, Nat.reduceMul, reduceCtorEq, Int.reduceEq, Int.reduceLT, Int.reduceLE, Int.reduceAdd, Int.reduceSub, Int.reduceNeg, Int.reduceToNat, undef, Value.cells, axL, hlk2, h1, wk]; rfl) rfl ?_)
                  | (with_reducible refine cond_t ?_ ?_; · simp only [Ax.ev, Ax.look, reduceIte, Nat.reduceEqDiff])
                  | (with_reducible refine cond_f ?_ ?_; · simp only [Ax.ev, Ax.look, reduceIte, Nat.reduceEqDiff])
                  | (with_reducible refine is_rp ?_; first | refine r_postR rfl ?_ | refine r_postR (by simp only [Ax.result, Ax.resVs, Ax.resV, R4, Ax.look, sizeN, mkV, Nat.reduceEqDiff, reduceIte, axL, hlk2, h1, wk]; rfl) ?_)
                  | (with_reducible refine is_np ?_; first | refine n_postR rfl ?_ | refine n_postR (by simp only [Ax.result, Ax.resVs, Ax.resV, R4, Ax.look, sizeN, mkV, Nat.reduceEqDiff, reduceIte, axL, hlk2, h1, wk]; rfl) ?_)
                  | (first | with_reducible refine is_wd ?_ | with_reducible refine dk_wd ?_); refine go_dt _ (by simp only [Ax.runDK, Ax.runDT, Ax.runDops, Ax.run1d, Ax.recs, Ax.okPair, Ax.idsE, Ax.idsV, AOp.mems, AOp.isWrite, DRec.none, axD, Ax.runK, Ax.runOps, Ax.run1, Ax.wantA, Ax.step, Ax.ev, Ax.evs, Ax.evo, Ax.evp, Ax.look, Ax.putE, Ax.keepE, Ax.argsE, Ax.extr, Ax.binV, Ax.intBin, Ax.unV, Ax.addOff, Ax.sizeN, Ax.mkV, Ax.okV, reduceIte, Nat.reduceEqDiff, Nat.reduceAdd, Nat.reduceLeDiff, Nat.reduceLT, Nat.reduceSub, Nat.reduceMul, reduceCtorEq, Int.reduceEq, Int.reduceLT, Int.reduceLE, Int.reduceAdd, Int.reduceSub, Int.reduceNeg, Int.reduceToNat, undef, Value.cells, axL, hlk2, h1, wk]; rfl) rfl ?_
                  | (with_reducible first | refine end_reg (Ev.mono _ _) ?_ | refine end_dreg (Ev.mono _ _) ?_ | refine end_cond (Ev.mono _ _) ?_ | refine end_block (Ev.mono _ _) ?_ | refine end_loop (Ev.mono _ _) ?_))
              have hS'' : Socks (endO (cutO o f to) m.socket) (upF f to ts) mp := fun s hs => hS' s (endO_mem.1 hs)
              exact ⟨(k + 1, m6, endO (cutO o f to) m.socket, upF f to ts, mp), by simp; omega, ⟨by simp; omega, hm6 ▸ hB', hS'', by rw [hm6, h3], H9⟩⟩
  · repeat' (first
        | (with_reducible first | refine go_assoc ?_ (Ev.mono _ _) | refine go_skip ?_ | refine go_fin ?_ | refine go_ret ?_ | refine go_ret0 ?_ | refine go_exit ?_ | refine go_exit0 ?_ | refine go_block ?_ | refine n_then ?_ | refine x_then ?_ | refine r_then ?_ | refine n_block ?_ | refine r_block ?_ | refine x_block ?_ | refine x_block_ne ?_ (by decide))
        | (with_reducible refine is_k ?_; refine go_k _ (by simp only [Ax.runK, Ax.runOps, Ax.run1, Ax.wantA, Ax.step, Ax.ev, Ax.evs, Ax.evo, Ax.evp, Ax.look, Ax.putE, Ax.keepE, Ax.argsE, Ax.extr, Ax.binV, Ax.intBin, Ax.unV, Ax.addOff, Ax.sizeN, Ax.mkV, Ax.okV, reduceIte, Nat.reduceEqDiff, Nat.reduceAdd, Nat.reduceLeDiff, Nat.reduceLT, Nat.reduceSub, Nat.reduceMul, reduceCtorEq, Int.reduceEq, Int.reduceLT, Int.reduceLE, Int.reduceAdd, Int.reduceSub, Int.reduceNeg, Int.reduceToNat, undef, Value.cells, axL]; rfl) rfl ?_)
        | (with_reducible refine cond_t ?_ ?_; · simp only [Ax.ev, Ax.look, reduceIte, Nat.reduceEqDiff])
        | (with_reducible refine cond_f ?_ ?_; · simp only [Ax.ev, Ax.look, reduceIte, Nat.reduceEqDiff])
        | (with_reducible refine is_rp ?_; first | refine r_postR rfl ?_ | refine r_postR (by simp only [Ax.result, Ax.resVs, Ax.resV, R4, Ax.look, sizeN, mkV, Nat.reduceEqDiff, reduceIte, axL]; rfl) ?_)
        | (with_reducible refine is_np ?_; first | refine n_postR rfl ?_ | refine n_postR (by simp only [Ax.result, Ax.resVs, Ax.resV, R4, Ax.look, sizeN, mkV, Nat.reduceEqDiff, reduceIte, axL]; rfl) ?_)
        | (first | with_reducible refine is_wd ?_ | with_reducible refine dk_wd ?_); refine go_dt _ (by simp only [Ax.runDK, Ax.runDT, Ax.runDops, Ax.run1d, Ax.recs, Ax.okPair, Ax.idsE, Ax.idsV, AOp.mems, AOp.isWrite, DRec.none, axD, Ax.runK, Ax.runOps, Ax.run1, Ax.wantA, Ax.step, Ax.ev, Ax.evs, Ax.evo, Ax.evp, Ax.look, Ax.putE, Ax.keepE, Ax.argsE, Ax.extr, Ax.binV, Ax.intBin, Ax.unV, Ax.addOff, Ax.sizeN, Ax.mkV, Ax.okV, reduceIte, Nat.reduceEqDiff, Nat.reduceAdd, Nat.reduceLeDiff, Nat.reduceLT, Nat.reduceSub, Nat.reduceMul, reduceCtorEq, Int.reduceEq, Int.reduceLT, Int.reduceLE, Int.reduceAdd, Int.reduceSub, Int.reduceNeg, Int.reduceToNat, undef, Value.cells, axL]; rfl) rfl ?_
        | (with_reducible first | refine end_reg (Ev.mono _ _) ?_ | refine end_dreg (Ev.mono _ _) ?_ | refine end_cond (Ev.mono _ _) ?_ | refine end_block (Ev.mono _ _) ?_ | refine end_loop (Ev.mono _ _) ?_))
    repeat' (with_reducible first | refine go_assoc ?_ (Ev.mono _ _) | refine go_skip ?_ | refine go_block ?_ | refine end_reg (Ev.mono _ _) ?_)
    refine go_callC _ (by simp only [Ax.runC, AOp.isCall, Ax.runK, Ax.runOps, Ax.run1, Ax.wantA, Ax.step, Ax.ev, Ax.evs, Ax.evo, Ax.evp, Ax.look, Ax.putE, Ax.keepE, Ax.argsE, Ax.extr, Ax.binV, Ax.intBin, Ax.unV, Ax.addOff, Ax.sizeN, Ax.mkV, Ax.okV, reduceIte, Nat.reduceEqDiff, Nat.reduceAdd, Nat.reduceLeDiff, Nat.reduceLT, Nat.reduceSub, Nat.reduceMul, reduceCtorEq, Int.reduceEq, Int.reduceLT, Int.reduceLE, Int.reduceAdd, Int.reduceSub, Int.reduceNeg, Int.reduceToNat, undef, Value.cells, axL]; rfl) rfl rfl (by simp only [Ax.wantA, Ax.look, reduceIte, Nat.reduceEqDiff, bq_t, bq_f, Bool.not_true, Bool.not_false]; try rfl) rfl (by simp only [Ax.runK, Ax.runOps, Ax.run1, Ax.wantA, Ax.step, Ax.ev, Ax.evs, Ax.evo, Ax.evp, Ax.look, Ax.putE, Ax.keepE, Ax.argsE, Ax.extr, Ax.binV, Ax.intBin, Ax.unV, Ax.addOff, Ax.sizeN, Ax.mkV, Ax.okV, reduceIte, Nat.reduceEqDiff, Nat.reduceAdd, Nat.reduceLeDiff, Nat.reduceLT, Nat.reduceSub, Nat.reduceMul, reduceCtorEq, Int.reduceEq, Int.reduceLT, Int.reduceLE, Int.reduceAdd, Int.reduceSub, Int.reduceNeg, Int.reduceToNat, undef, Value.cells, axL]; try rfl) ?_
    refine Ev.known G_live X_live ?_
    repeat' (first
        | (with_reducible first | refine go_assoc ?_ (Ev.mono _ _) | refine go_skip ?_ | refine go_fin ?_ | refine go_ret ?_ | refine go_ret0 ?_ | refine go_exit ?_ | refine go_exit0 ?_ | refine go_block ?_ | refine n_then ?_ | refine x_then ?_ | refine r_then ?_ | refine n_block ?_ | refine r_block ?_ | refine x_block ?_ | refine x_block_ne ?_ (by decide))
        | (with_reducible refine is_k ?_; refine go_k _ (by simp only [Ax.runK, Ax.runOps, Ax.run1, Ax.wantA, Ax.step, Ax.ev, Ax.evs, Ax.evo, Ax.evp, Ax.look, Ax.putE, Ax.keepE, Ax.argsE, Ax.extr, Ax.binV, Ax.intBin, Ax.unV, Ax.addOff, Ax.sizeN, Ax.mkV, Ax.okV, reduceIte, Nat.reduceEqDiff, Nat.reduceAdd, Nat.reduceLeDiff, Nat.reduceLT, Nat.reduceSub, Nat.reduceMul, reduceCtorEq, Int.reduceEq, Int.reduceLT, Int.reduceLE, Int.reduceAdd, Int.reduceSub, Int.reduceNeg, Int.reduceToNat, undef, Value.cells, axL]; rfl) rfl ?_)
        | (with_reducible refine cond_t ?_ ?_; · simp only [Ax.ev, Ax.look, reduceIte, Nat.reduceEqDiff])
        | (with_reducible refine cond_f ?_ ?_; · simp only [Ax.ev, Ax.look, reduceIte, Nat.reduceEqDiff])
        | (with_reducible refine is_rp ?_; first | refine r_postR rfl ?_ | refine r_postR (by simp only [Ax.result, Ax.resVs, Ax.resV, R4, Ax.look, sizeN, mkV, Nat.reduceEqDiff, reduceIte, axL]; rfl) ?_)
        | (with_reducible refine is_np ?_; first | refine n_postR rfl ?_ | refine n_postR (by simp only [Ax.result, Ax.resVs, Ax.resV, R4, Ax.look, sizeN, mkV, Nat.reduceEqDiff, reduceIte, axL]; rfl) ?_)
        | (first | with_reducible refine is_wd ?_ | with_reducible refine dk_wd ?_); refine go_dt _ (by simp only [Ax.runDK, Ax.runDT, Ax.runDops, Ax.run1d, Ax.recs, Ax.okPair, Ax.idsE, Ax.idsV, AOp.mems, AOp.isWrite, DRec.none, axD, Ax.runK, Ax.runOps, Ax.run1, Ax.wantA, Ax.step, Ax.ev, Ax.evs, Ax.evo, Ax.evp, Ax.look, Ax.putE, Ax.keepE, Ax.argsE, Ax.extr, Ax.binV, Ax.intBin, Ax.unV, Ax.addOff, Ax.sizeN, Ax.mkV, Ax.okV, reduceIte, Nat.reduceEqDiff, Nat.reduceAdd, Nat.reduceLeDiff, Nat.reduceLT, Nat.reduceSub, Nat.reduceMul, reduceCtorEq, Int.reduceEq, Int.reduceLT, Int.reduceLE, Int.reduceAdd, Int.reduceSub, Int.reduceNeg, Int.reduceToNat, undef, Value.cells, axL]; rfl) rfl ?_
        | (with_reducible first | refine end_reg (Ev.mono _ _) ?_ | refine end_dreg (Ev.mono _ _) ?_ | refine end_cond (Ev.mono _ _) ?_ | refine end_block (Ev.mono _ _) ?_ | refine end_loop (Ev.mono _ _) ?_))
    rfl
end Go.Proofs.Ytgnjkkppahhhfaa

/- Law 14: how long who waits has to wait. -/
namespace Go.Proofs.Ytgnjkkppahhhfaa
open Go.Ax
open Go.Ax.Enc (enc)

theorem nodup_len : ∀ (r l : List Int), l.Nodup → (∀ x ∈ l, x ∈ r) → l.length ≤ r.length
  | [], l, _, h => by
    cases l with
    | nil => exact Nat.le_refl _
    | cons a l => exact absurd (h a (by simp)) (by simp)
  | a :: r, l, hn, h => by
    have h1 := nodup_len r (l.erase a) (hn.erase a) (fun x hx => by
      have hxl := List.mem_of_mem_erase hx
      have hne : x ≠ a := fun e => by subst e; exact absurd hx (hn.not_mem_erase)
      rcases List.mem_cons.1 (h x hxl) with rfl | hr
      · exact absurd rfl hne
      · exact hr)
    rw [List.length_erase] at h1
    simp only [List.length_cons]
    split at h1 <;> omega

/-- What stands ahead. -/
def tw (s : Int) (o : List Int) : List Int := o.takeWhile fun x => decide (x ≠ s)

theorem tw_cons_eq (s : Int) (o : List Int) : tw s (s :: o) = [] := by simp [tw]
theorem tw_cons_ne {s a : Int} (h : a ≠ s) (o : List Int) : tw s (a :: o) = a :: tw s o := by simp [tw, h]

theorem tw_erase {s x : Int} (hx : x ≠ s) (P : Int → Bool) (hP : P x = false) : ∀ o : List Int, (tw s (o.erase x)).filter P = (tw s o).filter P
  | [] => rfl
  | a :: o => by
    have ih := tw_erase hx P hP o
    by_cases e : a = x
    · subst e
      rw [List.erase_cons_head, tw_cons_ne hx, List.filter_cons, hP]; simp
    · rw [List.erase_cons_tail (by simpa using e)]
      by_cases e2 : a = s
      · subst e2; rw [tw_cons_eq, tw_cons_eq]
      · rw [tw_cons_ne e2, tw_cons_ne e2, List.filter_cons, List.filter_cons, ih]

theorem tw_snoc {s : Int} (y : Int) : ∀ {o : List Int}, s ∈ o → tw s (o ++ [y]) = tw s o
  | [], h => by cases h
  | a :: o, h => by
    by_cases e : a = s
    · subst e; rw [List.cons_append, tw_cons_eq, tw_cons_eq]
    · rw [List.cons_append, tw_cons_ne e, tw_cons_ne e, tw_snoc y (by simpa [Ne.symm e] using h)]

theorem tw_mem {s to : Int} (hne : to ≠ s) : ∀ {pre post : List Int}, s ∉ pre → to ∈ tw s (pre ++ to :: post)
  | [], post, _ => by rw [List.nil_append, tw_cons_ne hne]; simp
  | a :: pre, post, h => by
    simp only [List.mem_cons, not_or] at h
    rw [List.cons_append, tw_cons_ne (Ne.symm h.1)]
    exact List.mem_cons_of_mem _ (tw_mem hne h.2)

theorem tw_sub (s : Int) (o : List Int) : (tw s o).Sublist o := List.takeWhile_sublist _

theorem tw_not (s : Int) : ∀ o : List Int, s ∉ tw s o
  | [] => by simp [tw]
  | a :: o => by
    by_cases e : a = s
    · subst e; rw [tw_cons_eq]; simp
    · rw [tw_cons_ne e]; simp [Ne.symm e, tw_not s o]

def ne (c : Int) : Int → Bool := fun x => decide (x ≠ c)

/-- How many sockets have the lock ahead of one. -/
def qq (c : Int) (o : List Int) (s : Int) : Nat := ((tw s o).filter (ne c)).length

theorem qq_lt {c s : Int} {o : List Int} (hs : s ∈ o) : qq c o s + 1 ≤ o.length := by
  have h1 : (tw s o).length + 1 ≤ o.length := by
    obtain ⟨pre, post, rfl⟩ := List.append_of_mem hs
    clear hs
    induction pre with
    | nil => rw [List.nil_append, tw_cons_eq]; simp
    | cons a pre ih =>
      by_cases e : a = s
      · subst e; rw [List.cons_append, tw_cons_eq]; simp
      · rw [List.cons_append, tw_cons_ne e]
        simp only [List.length_cons]
        omega
  have h2 : qq c o s ≤ (tw s o).length := List.length_filter_le _ _
  omega

/-- In how many hand-offs at most a socket's first is told. -/
def dd (c ps : Int) (o : List Int) (s : Int) : Int :=
  if s = c then (if ps < 3 then 1 else 21) else (if ps < 3 then 3 - ps else 0) + 4 * (qq c o s : Int) + 1

theorem dd_pos (c ps : Int) (o : List Int) (s : Int) : 1 ≤ dd c ps o s := by
  unfold dd
  repeat' split
  all_goals omega

theorem dd_le {c ps : Int} {o : List Int} {s : Int} (hs : s ∈ o) (hl : o.length ≤ 6) (hp : 0 ≤ ps) : dd c ps o s ≤ 24 := by
  have := qq_lt (c := c) hs
  unfold dd
  repeat' split
  all_goals omega

theorem dd_own {c ps : Int} {o : List Int} : dd c ps o c ≤ 21 := by
  unfold dd
  rw [if_pos rfl]
  split <;> omega

theorem qq_cut {c s : Int} {o : List Int} {f : Int → List Int} (h : s ≠ c) : qq c (cutO o f c) s = qq c o s := by
  unfold cutO
  split
  · unfold qq; rw [tw_erase (Ne.symm h) _ (by simp [ne])]
  · rfl

theorem dd_stay {c ps s : Int} {o : List Int} {f : Int → List Int} (h : s ≠ c) (hp : ps < 3) : dd c (ps + 1) (cutO o f c) s + 1 ≤ dd c ps o s := by
  unfold dd
  rw [if_neg h, if_neg h, qq_cut h, if_pos hp]
  split <;> omega

theorem dd_add {c ps s x : Int} {o : List Int} (hs : s ∈ o) : dd c ps (addO o x) s = dd c ps o s := by
  have : qq c (addO o x) s = qq c o s := by
    unfold addO
    split
    · rfl
    · unfold qq; rw [tw_snoc x hs]
  unfold dd
  rw [this]

theorem filter_end {c s to : Int} {o : List Int} (hs : s ∈ o) (hsc : s ≠ c) : qq to (endO o c) s ≤ ((tw s (o.erase c)).filter (ne to)).length ∨ qq to (endO o c) s ≤ ((tw s o).filter (ne to)).length ∧ c ∉ o := by
  unfold endO
  split
  · left
    unfold qq
    rw [tw_snoc c ((List.mem_erase_of_ne hsc).2 hs)]
    exact Nat.le_refl _
  · rename_i h
    right
    exact ⟨Nat.le_refl _, h⟩

theorem mem_cut {o : List Int} {f : Int → List Int} {s to : Int} (h : s ≠ to) : s ∈ cutO o f to ↔ s ∈ o := by
  unfold cutO
  split
  · exact List.mem_erase_of_ne h
  · exact Iff.rfl

theorem cut_sub {o : List Int} {f : Int → List Int} {to : Int} : (cutO o f to).Sublist o := by
  unfold cutO
  split
  · exact List.erase_sublist
  · exact List.Sublist.refl _

/-- Without two of them. -/
def ne2 (c d : Int) : Int → Bool := fun x => decide (x ≠ c) && decide (x ≠ d)

theorem filter_ne2 (c d : Int) (l : List Int) (h : ∀ x ∈ l, x ≠ c) : (l.filter (ne d)) = l.filter (ne2 c d) := by
  refine List.filter_congr fun x hx => ?_
  simp [ne, ne2, h x hx]

theorem qq_away {c s to : Int} {o pre post : List Int} {f : Int → List Int} (hn : o.Nodup) (ho : o = pre ++ to :: post) (hpre : ∀ x ∈ pre, x = c) (hto : to ≠ c) (hs : s ∈ o) (h1 : s ≠ c) (h2 : s ≠ to) : qq to (endO (cutO o f to) c) s + 1 ≤ qq c o s := by
  have hs1 : s ∈ cutO o f to := (mem_cut h2).2 hs
  have hP : (ne2 c to) c = false := by simp [ne2]
  have hP2 : (ne2 c to) to = false := by simp [ne2]
  have e1 : qq to (endO (cutO o f to) c) s ≤ ((tw s (cutO o f to)).filter (ne2 c to)).length := by
    rcases filter_end (to := to) hs1 h1 with h | ⟨h, hc⟩
    · have hnd : (cutO o f to).Nodup := hn.sublist cut_sub
      have : ∀ x ∈ tw s ((cutO o f to).erase c), x ≠ c := fun x hx e => by
        subst e
        exact absurd ((tw_sub _ _).subset hx) hnd.not_mem_erase
      rw [filter_ne2 c to _ this, tw_erase (Ne.symm h1) _ hP] at h
      exact h
    · have : ∀ x ∈ tw s (cutO o f to), x ≠ c := fun x hx e => by
        subst e
        exact hc ((tw_sub _ _).subset hx)
      rw [filter_ne2 c to _ this] at h
      exact h
  have e2 : (tw s (cutO o f to)).filter (ne2 c to) = (tw s o).filter (ne2 c to) := by
    unfold cutO
    split
    · rw [tw_erase (Ne.symm h2) _ hP2]
    · rfl
  rw [e2] at e1
  have e3 : (tw s o).filter (ne2 c to) = ((tw s o).filter (ne c)).filter (ne to) := by
    rw [List.filter_filter]
    refine List.filter_congr fun x _ => ?_
    simp [ne, ne2, Bool.and_comm]
  have hmem : to ∈ (tw s o).filter (ne c) := by
    refine List.mem_filter.2 ⟨?_, by simp [ne, hto]⟩
    rw [ho]
    exact tw_mem (Ne.symm h2) (fun hm => h1 (hpre s hm))
  have e4 : (((tw s o).filter (ne c)).filter (ne to)).length < ((tw s o).filter (ne c)).length := by
    rcases Nat.lt_or_ge (((tw s o).filter (ne c)).filter (ne to)).length ((tw s o).filter (ne c)).length with h | h
    · exact h
    · have hle := List.length_filter_le (ne to) ((tw s o).filter (ne c))
      have := (List.length_filter_eq_length_iff (p := ne to) (l := (tw s o).filter (ne c))).1 (by omega) to hmem
      simp [ne] at this
  rw [e3] at e1
  unfold qq at e1 ⊢
  omega

theorem dd_away {c s to ps : Int} {o pre post : List Int} {f : Int → List Int} (hn : o.Nodup) (ho : o = pre ++ to :: post) (hpre : ∀ x ∈ pre, x = c) (hto : to ≠ c) (hs : s ∈ o) (h1 : s ≠ c) (h2 : s ≠ to) :
    dd to 0 (endO (cutO o f to) c) s + 1 ≤ dd c ps o s := by
  have := qq_away (f := f) hn ho hpre hto hs h1 h2
  unfold dd
  rw [if_neg h1, if_neg h2, if_pos (by omega)]
  split <;> omega

theorem dd_back {c to ps : Int} {o : List Int} {f : Int → List Int} (hl : o.length ≤ 6) (hn : (endO (cutO o f to) c).Nodup) (hno : o.Nodup) (hto : to ≠ c) (hc : c ∈ o) (ht : to ∈ o) (hp : ¬ ps < 3) :
    dd to 0 (endO (cutO o f to) c) c + 1 ≤ dd c ps o c := by
  have h1 : qq to (endO (cutO o f to) c) c ≤ ((o.erase c).erase to).length := by
    unfold qq
    refine nodup_len _ _ ((hn.sublist (tw_sub _ _)).filter _) fun x hx => ?_
    obtain ⟨hx1, hx2⟩ := List.mem_filter.1 hx
    have hxt : x ≠ to := by simpa [ne] using hx2
    have hxc : x ≠ c := fun e => by subst e; exact tw_not _ _ hx1
    have hxo : x ∈ o := cut_sub.subset (endO_mem.1 ((tw_sub _ _).subset hx1))
    exact (List.mem_erase_of_ne hxt).2 ((List.mem_erase_of_ne hxc).2 hxo)
  have h2 : ((o.erase c).erase to).length + 2 ≤ 6 := by
    have ht' : to ∈ o.erase c := (List.mem_erase_of_ne hto).2 ht
    rw [List.length_erase_of_mem ht', List.length_erase_of_mem hc]
    have : 0 < (o.erase c).length := List.length_pos_of_mem ht'
    rw [List.length_erase_of_mem hc] at this
    omega
  unfold dd
  rw [if_neg (Ne.symm hto), if_pos rfl, if_neg hp, if_pos (by omega)]
  omega

/-- The numbers that are left, each at least so much; 'cnt': how many of each socket are ahead. -/
def okL (D : Int → Int) : (Int → Nat) → List (Int × Int) → List Int → Prop
  | _, [], [] => True
  | cnt, w :: W, l :: L => 24 * (cnt w.2 : Int) + D w.2 ≤ l ∧ okL D (fun s => if s = w.2 then cnt s + 1 else cnt s) W L
  | _, _, _ => False

theorem okL_len {D : Int → Int} : ∀ {cnt : Int → Nat} {W : List (Int × Int)} {L : List Int}, okL D cnt W L → W.length = L.length
  | _, [], [], _ => rfl
  | _, _ :: _, _ :: _, h => by simp only [List.length_cons]; rw [okL_len h.2]

theorem okL_congr {D D' : Int → Int} : ∀ {cnt : Int → Nat} {W : List (Int × Int)} {L : List Int}, (∀ w ∈ W, D' w.2 ≤ D w.2) → okL D cnt W L → okL D' cnt W L
  | _, [], [], _, _ => trivial
  | _, w :: W, _ :: _, hd, h => ⟨by have := hd w (by simp); have := h.1; omega, okL_congr (fun x hx => hd x (by simp [hx])) h.2⟩

theorem okL_snoc {D : Int → Int} {w : Int × Int} {l : Int} : ∀ {cnt : Int → Nat} {W : List (Int × Int)} {L : List Int}, okL D cnt W L → 24 * ((cnt w.2 + (W.filter fun x => decide (x.2 = w.2)).length : Nat) : Int) + D w.2 ≤ l → okL D cnt (W ++ [w]) (L ++ [l])
  | _, [], [], _, h => ⟨by simpa using h, trivial⟩
  | cnt, a :: W, b :: L, h, hl => by
    refine ⟨h.1, okL_snoc h.2 ?_⟩
    by_cases e : a.2 = w.2
    · rw [List.filter_cons, if_pos (by simpa using e)] at hl
      rw [if_pos e.symm]
      simp only [List.length_cons] at hl
      have : cnt w.2 + 1 + (W.filter fun x => decide (x.2 = w.2)).length = cnt w.2 + ((W.filter fun x => decide (x.2 = w.2)).length + 1) := by omega
      rw [this]; exact hl
    · rw [List.filter_cons, if_neg (by simpa using e)] at hl
      rw [if_neg (fun h => e h.symm)]
      exact hl

/-- One told, of whom 'cnt' has one more: each of the rest has one hand-off less to wait. -/
theorem okL_rest {D D' : Int → Int} {to : Int} (hto : D' to ≤ 23) : ∀ {cnt cnt' : Int → Nat} {W : List (Int × Int)} {L : List Int}, (∀ w ∈ W, w.2 ≠ to → D' w.2 + 1 ≤ D w.2) → (∀ s, 0 < D s) → (∀ s, cnt s = if s = to then cnt' s + 1 else cnt' s) → okL D cnt W L → okL D' cnt' W (L.map (· - 1))
  | _, _, [], [], _, _, _, _ => trivial
  | cnt, cnt', w :: W, l :: L, hd, hp, hc, h => by
    refine ⟨?_, okL_rest hto (fun x hx => hd x (by simp [hx])) hp ?_ h.2⟩
    · have h1 := h.1
      have h2 := hc w.2
      by_cases e : w.2 = to
      · rw [if_pos e] at h2
        have := hp w.2
        rw [e] at h1 h2 this ⊢
        dsimp only
        omega
      · rw [if_neg e] at h2
        have := hd w (by simp) e
        rw [h2] at h1
        dsimp only
        omega
    · intro s
      have h2 := hc s
      by_cases e2 : s = to
      · rw [if_pos e2] at h2 ⊢
        by_cases e1 : s = w.2
        · rw [if_pos e1, if_pos e1]; omega
        · rw [if_neg e1, if_neg e1]; omega
      · rw [if_neg e2] at h2 ⊢
        by_cases e1 : s = w.2
        · rw [if_pos e1, if_pos e1]; omega
        · rw [if_neg e1, if_neg e1]; omega

theorem okL_tell {D D' : Int → Int} {a : Int × Int} {B : List (Int × Int)} (hto : D' a.2 ≤ 23) (hp : ∀ s, 0 < D s) : ∀ {A : List (Int × Int)} {cnt : Int → Nat} {L : List Int}, (∀ w ∈ A, w.2 ≠ a.2) → (∀ w ∈ A ++ B, w.2 ≠ a.2 → D' w.2 + 1 ≤ D w.2) → okL D cnt (A ++ a :: B) L → okL D' cnt (A ++ B) ((L.map (· - 1)).eraseIdx A.length)
  | [], cnt, [], _, _, h => h.elim
  | [], cnt, l :: L, _, hd, h => by
    refine okL_rest hto (fun w hw => hd w (by simpa using hw)) hp (fun s => ?_) h.2
    split <;> rfl
  | w :: A, cnt, [], _, _, h => h.elim
  | w :: A, cnt, l :: L, hA, hd, h => by
    refine ⟨?_, okL_tell hto hp (fun x hx => hA x (by simp [hx])) (fun x hx => hd x (by simp at hx ⊢; rcases hx with h | h <;> simp [h])) h.2⟩
    have := hd w (by simp) (hA w (by simp))
    have := h.1
    simp only
    omega

/-- Each of them is at least one. -/
theorem okL_pos {D : Int → Int} (hp : ∀ s, 0 < D s) : ∀ {cnt : Int → Nat} {W : List (Int × Int)} {L : List Int}, okL D cnt W L → ∀ l ∈ L, 0 < l
  | _, [], [], _, l, hl => by cases hl
  | cnt, w :: W, x :: L, h, l, hl => by
    rcases List.mem_cons.1 hl with rfl | hl
    · have := h.1; have := hp w.2; omega
    · exact okL_pos hp h.2 l hl

end Go.Proofs.Ytgnjkkppahhhfaa

