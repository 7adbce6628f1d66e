/- Part 1 of Split. -/
import Derived.Test.YtboclpaokecalaaCode
set_option linter.unusedVariables false
set_option linter.unusedSimpArgs false
set_option linter.unnecessarySimpa false
/- Law 06: how things stand to one another, as walked. -/
namespace Go.Proofs.Ytboclpaokecalaa
open Go.Ax
open Go.Ax.Enc (enc)

/-- A thing in a heap. -/
structure It where
  when : Int
  seq : Int
  x : Int

instance : Enc It 3 := ⟨fun i => [.int .i64 i.when, .int .i64 i.seq, .int .i64 i.x], fun _ => rfl⟩

theorem enc_it (i : It) : enc i = [.int .i64 i.when, .int .i64 i.seq, .int .i64 i.x] := rfl

def cmpI (a b : Int) : Int := if a < b then -1 else if b < a then 1 else 0

def aheadI (a b : It) : Int := if cmpI a.when b.when ≠ 0 then cmpI a.when b.when else cmpI a.seq b.seq

theorem isNaN_spec (X : Nat → List Value → Option Value) (a : Int) {S : AS} {Q : Value → AS → Prop} (hq : Q (.bool false) S) : Ev G X 47 [.int .i64 a] S Q := by
  refine Ev.fnR (rs := R47) (c := A47) rfl ?_
  unfold A47
  repeat' (first
      | (with_reducible first | refine go_assoc ?_ (Ev.mono _ _) | refine go_skip ?_ | refine go_fin ?_ | refine go_ret ?_ | refine go_ret0 ?_ | refine go_exit ?_ | refine go_exit0 ?_ | refine go_block ?_ | refine n_then ?_ | refine x_then ?_ | refine r_then ?_ | refine n_block ?_ | refine r_block ?_ | refine x_block ?_ | refine x_block_ne ?_ (by decide))
      | (with_reducible refine is_k ?_; refine go_k _ (by simp only [Ax.runK, Ax.runOps, Ax.run1, Ax.wantA, Ax.step, Ax.ev, Ax.evs, Ax.evo, Ax.evp, Ax.look, Ax.putE, Ax.keepE, Ax.argsE, Ax.extr, Ax.binV, Ax.intBin, Ax.unV, Ax.addOff, Ax.sizeN, Ax.mkV, Ax.okV, reduceIte, Nat.reduceEqDiff, Nat.reduceAdd, Nat.reduceLeDiff, Nat.reduceLT, Nat.reduceSub, Nat.reduceMul, reduceCtorEq, Int.reduceEq, Int.reduceLT, Int.reduceLE, Int.reduceAdd, Int.reduceSub, Int.reduceNeg, Int.reduceToNat, undef, Value.cells, axL]; rfl) rfl ?_)
      | (with_reducible refine cond_t ?_ ?_; · simp only [Ax.ev, Ax.look, reduceIte, Nat.reduceEqDiff])
      | (with_reducible refine cond_f ?_ ?_; · simp only [Ax.ev, Ax.look, reduceIte, Nat.reduceEqDiff])
      | (with_reducible refine is_rp ?_; first | refine r_postR rfl ?_ | refine r_postR (by simp only [Ax.result, Ax.resVs, Ax.resV, R47, Ax.look, sizeN, mkV, Nat.reduceEqDiff, reduceIte, axL]; rfl) ?_)
      | (with_reducible refine is_np ?_; first | refine n_postR rfl ?_ | refine n_postR (by simp only [Ax.result, Ax.resVs, Ax.resV, R47, Ax.look, sizeN, mkV, Nat.reduceEqDiff, reduceIte, axL]; rfl) ?_)
      | (first | with_reducible refine is_wd ?_ | with_reducible refine dk_wd ?_); refine go_dt _ (by simp only [Ax.runDK, Ax.runDT, Ax.runDops, Ax.run1d, Ax.recs, Ax.okPair, Ax.idsE, Ax.idsV, AOp.mems, AOp.isWrite, DRec.none, axD, Ax.runK, Ax.runOps, Ax.run1, Ax.wantA, Ax.step, Ax.ev, Ax.evs, Ax.evo, Ax.evp, Ax.look, Ax.putE, Ax.keepE, Ax.argsE, Ax.extr, Ax.binV, Ax.intBin, Ax.unV, Ax.addOff, Ax.sizeN, Ax.mkV, Ax.okV, reduceIte, Nat.reduceEqDiff, Nat.reduceAdd, Nat.reduceLeDiff, Nat.reduceLT, Nat.reduceSub, Nat.reduceMul, reduceCtorEq, Int.reduceEq, Int.reduceLT, Int.reduceLE, Int.reduceAdd, Int.reduceSub, Int.reduceNeg, Int.reduceToNat, undef, Value.cells, axL]; rfl) rfl ?_
      | (with_reducible first | refine end_reg (Ev.mono _ _) ?_ | refine end_dreg (Ev.mono _ _) ?_ | refine end_cond (Ev.mono _ _) ?_ | refine end_block (Ev.mono _ _) ?_ | refine end_loop (Ev.mono _ _) ?_))
  simpa using hq

theorem compare_spec (X : Nat → List Value → Option Value) (a b : Int) {S : AS} {Q : Value → AS → Prop} (hq : Q (.int .i64 (cmpI a b)) S) : Ev G X 40 [.int .i64 a, .int .i64 b] S Q := by
  refine Ev.fnR (rs := R40) (c := A40) rfl ?_
  unfold A40
  repeat' (first
      | (with_reducible first | refine go_assoc ?_ (Ev.mono _ _) | refine go_skip ?_ | refine go_fin ?_ | refine go_ret ?_ | refine go_ret0 ?_ | refine go_exit ?_ | refine go_exit0 ?_ | refine go_block ?_ | refine n_then ?_ | refine x_then ?_ | refine r_then ?_ | refine n_block ?_ | refine r_block ?_ | refine x_block ?_ | refine x_block_ne ?_ (by decide))
      | (with_reducible refine is_k ?_; refine go_k _ (by simp only [Ax.runK, Ax.runOps, Ax.run1, Ax.wantA, Ax.step, Ax.ev, Ax.evs, Ax.evo, Ax.evp, Ax.look, Ax.putE, Ax.keepE, Ax.argsE, Ax.extr, Ax.binV, Ax.intBin, Ax.unV, Ax.addOff, Ax.sizeN, Ax.mkV, Ax.okV, reduceIte, Nat.reduceEqDiff, Nat.reduceAdd, Nat.reduceLeDiff, Nat.reduceLT, Nat.reduceSub, Nat.reduceMul, reduceCtorEq, Int.reduceEq, Int.reduceLT, Int.reduceLE, Int.reduceAdd, Int.reduceSub, Int.reduceNeg, Int.reduceToNat, undef, Value.cells, axL]; rfl) rfl ?_)
      | (with_reducible refine cond_t ?_ ?_; · simp only [Ax.ev, Ax.look, reduceIte, Nat.reduceEqDiff])
      | (with_reducible refine cond_f ?_ ?_; · simp only [Ax.ev, Ax.look, reduceIte, Nat.reduceEqDiff])
      | (with_reducible refine is_rp ?_; first | refine r_postR rfl ?_ | refine r_postR (by simp only [Ax.result, Ax.resVs, Ax.resV, R40, Ax.look, sizeN, mkV, Nat.reduceEqDiff, reduceIte, axL]; rfl) ?_)
      | (with_reducible refine is_np ?_; first | refine n_postR rfl ?_ | refine n_postR (by simp only [Ax.result, Ax.resVs, Ax.resV, R40, Ax.look, sizeN, mkV, Nat.reduceEqDiff, reduceIte, axL]; rfl) ?_)
      | (first | with_reducible refine is_wd ?_ | with_reducible refine dk_wd ?_); refine go_dt _ (by simp only [Ax.runDK, Ax.runDT, Ax.runDops, Ax.run1d, Ax.recs, Ax.okPair, Ax.idsE, Ax.idsV, AOp.mems, AOp.isWrite, DRec.none, axD, Ax.runK, Ax.runOps, Ax.run1, Ax.wantA, Ax.step, Ax.ev, Ax.evs, Ax.evo, Ax.evp, Ax.look, Ax.putE, Ax.keepE, Ax.argsE, Ax.extr, Ax.binV, Ax.intBin, Ax.unV, Ax.addOff, Ax.sizeN, Ax.mkV, Ax.okV, reduceIte, Nat.reduceEqDiff, Nat.reduceAdd, Nat.reduceLeDiff, Nat.reduceLT, Nat.reduceSub, Nat.reduceMul, reduceCtorEq, Int.reduceEq, Int.reduceLT, Int.reduceLE, Int.reduceAdd, Int.reduceSub, Int.reduceNeg, Int.reduceToNat, undef, Value.cells, axL]; rfl) rfl ?_
      | (with_reducible first | refine end_reg (Ev.mono _ _) ?_ | refine end_dreg (Ev.mono _ _) ?_ | refine end_cond (Ev.mono _ _) ?_ | refine end_block (Ev.mono _ _) ?_ | refine end_loop (Ev.mono _ _) ?_))
  repeat' (with_reducible first | refine go_assoc ?_ (Ev.mono _ _) | refine go_skip ?_ | refine go_block ?_ | refine end_reg (Ev.mono _ _) ?_)
  refine go_callN 1 _ (by simp only [Ax.runN, Ax.runK, Ax.runOps, Ax.run1, Ax.wantA, Ax.step, Ax.ev, Ax.evs, Ax.evo, Ax.evp, Ax.look, Ax.putE, Ax.keepE, Ax.argsE, Ax.extr, Ax.binV, Ax.intBin, Ax.unV, Ax.addOff, Ax.sizeN, Ax.mkV, Ax.okV, reduceIte, Nat.reduceEqDiff, Nat.reduceAdd, Nat.reduceLeDiff, Nat.reduceLT, Nat.reduceSub, Nat.reduceMul, reduceCtorEq, Int.reduceEq, Int.reduceLT, Int.reduceLE, Int.reduceAdd, Int.reduceSub, Int.reduceNeg, Int.reduceToNat, undef, Value.cells, axL]; rfl) rfl rfl (by simp only [Ax.wantA, Ax.look, reduceIte, Nat.reduceEqDiff, bq_t, bq_f, Bool.not_true, Bool.not_false]; try rfl) rfl (by simp only [Ax.runK, Ax.runOps, Ax.run1, Ax.wantA, Ax.step, Ax.ev, Ax.evs, Ax.evo, Ax.evp, Ax.look, Ax.putE, Ax.keepE, Ax.argsE, Ax.extr, Ax.binV, Ax.intBin, Ax.unV, Ax.addOff, Ax.sizeN, Ax.mkV, Ax.okV, reduceIte, Nat.reduceEqDiff, Nat.reduceAdd, Nat.reduceLeDiff, Nat.reduceLT, Nat.reduceSub, Nat.reduceMul, reduceCtorEq, Int.reduceEq, Int.reduceLT, Int.reduceLE, Int.reduceAdd, Int.reduceSub, Int.reduceNeg, Int.reduceToNat, undef, Value.cells, axL]; try rfl) ?_
  refine isNaN_spec X a ?_
  repeat' (first
      | (with_reducible first | refine go_assoc ?_ (Ev.mono _ _) | refine go_skip ?_ | refine go_fin ?_ | refine go_ret ?_ | refine go_ret0 ?_ | refine go_exit ?_ | refine go_exit0 ?_ | refine go_block ?_ | refine n_then ?_ | refine x_then ?_ | refine r_then ?_ | refine n_block ?_ | refine r_block ?_ | refine x_block ?_ | refine x_block_ne ?_ (by decide))
      | (with_reducible refine is_k ?_; refine go_k _ (by simp only [Ax.runK, Ax.runOps, Ax.run1, Ax.wantA, Ax.step, Ax.ev, Ax.evs, Ax.evo, Ax.evp, Ax.look, Ax.putE, Ax.keepE, Ax.argsE, Ax.extr, Ax.binV, Ax.intBin, Ax.unV, Ax.addOff, Ax.sizeN, Ax.mkV, Ax.okV, reduceIte, Nat.reduceEqDiff, Nat.reduceAdd, Nat.reduceLeDiff, Nat.reduceLT, Nat.reduceSub, Nat.reduceMul, reduceCtorEq, Int.reduceEq, Int.reduceLT, Int.reduceLE, Int.reduceAdd, Int.reduceSub, Int.reduceNeg, Int.reduceToNat, undef, Value.cells, axL]; rfl) rfl ?_)
      | (with_reducible refine cond_t ?_ ?_; · simp only [Ax.ev, Ax.look, reduceIte, Nat.reduceEqDiff])
      | (with_reducible refine cond_f ?_ ?_; · simp only [Ax.ev, Ax.look, reduceIte, Nat.reduceEqDiff])
      | (with_reducible refine is_rp ?_; first | refine r_postR rfl ?_ | refine r_postR (by simp only [Ax.result, Ax.resVs, Ax.resV, R40, Ax.look, sizeN, mkV, Nat.reduceEqDiff, reduceIte, axL]; rfl) ?_)
      | (with_reducible refine is_np ?_; first | refine n_postR rfl ?_ | refine n_postR (by simp only [Ax.result, Ax.resVs, Ax.resV, R40, Ax.look, sizeN, mkV, Nat.reduceEqDiff, reduceIte, axL]; rfl) ?_)
      | (first | with_reducible refine is_wd ?_ | with_reducible refine dk_wd ?_); refine go_dt _ (by simp only [Ax.runDK, Ax.runDT, Ax.runDops, Ax.run1d, Ax.recs, Ax.okPair, Ax.idsE, Ax.idsV, AOp.mems, AOp.isWrite, DRec.none, axD, Ax.runK, Ax.runOps, Ax.run1, Ax.wantA, Ax.step, Ax.ev, Ax.evs, Ax.evo, Ax.evp, Ax.look, Ax.putE, Ax.keepE, Ax.argsE, Ax.extr, Ax.binV, Ax.intBin, Ax.unV, Ax.addOff, Ax.sizeN, Ax.mkV, Ax.okV, reduceIte, Nat.reduceEqDiff, Nat.reduceAdd, Nat.reduceLeDiff, Nat.reduceLT, Nat.reduceSub, Nat.reduceMul, reduceCtorEq, Int.reduceEq, Int.reduceLT, Int.reduceLE, Int.reduceAdd, Int.reduceSub, Int.reduceNeg, Int.reduceToNat, undef, Value.cells, axL]; rfl) rfl ?_
      | (with_reducible first | refine end_reg (Ev.mono _ _) ?_ | refine end_dreg (Ev.mono _ _) ?_ | refine end_cond (Ev.mono _ _) ?_ | refine end_block (Ev.mono _ _) ?_ | refine end_loop (Ev.mono _ _) ?_))
  repeat' (with_reducible first | refine go_assoc ?_ (Ev.mono _ _) | refine go_skip ?_ | refine go_block ?_ | refine end_reg (Ev.mono _ _) ?_)
  refine go_callN 1 _ (by simp only [Ax.runN, Ax.runK, Ax.runOps, Ax.run1, Ax.wantA, Ax.step, Ax.ev, Ax.evs, Ax.evo, Ax.evp, Ax.look, Ax.putE, Ax.keepE, Ax.argsE, Ax.extr, Ax.binV, Ax.intBin, Ax.unV, Ax.addOff, Ax.sizeN, Ax.mkV, Ax.okV, reduceIte, Nat.reduceEqDiff, Nat.reduceAdd, Nat.reduceLeDiff, Nat.reduceLT, Nat.reduceSub, Nat.reduceMul, reduceCtorEq, Int.reduceEq, Int.reduceLT, Int.reduceLE, Int.reduceAdd, Int.reduceSub, Int.reduceNeg, Int.reduceToNat, undef, Value.cells, axL]; rfl) rfl rfl (by simp only [Ax.wantA, Ax.look, reduceIte, Nat.reduceEqDiff, bq_t, bq_f, Bool.not_true, Bool.not_false]; try rfl) rfl (by simp only [Ax.runK, Ax.runOps, Ax.run1, Ax.wantA, Ax.step, Ax.ev, Ax.evs, Ax.evo, Ax.evp, Ax.look, Ax.putE, Ax.keepE, Ax.argsE, Ax.extr, Ax.binV, Ax.intBin, Ax.unV, Ax.addOff, Ax.sizeN, Ax.mkV, Ax.okV, reduceIte, Nat.reduceEqDiff, Nat.reduceAdd, Nat.reduceLeDiff, Nat.reduceLT, Nat.reduceSub, Nat.reduceMul, reduceCtorEq, Int.reduceEq, Int.reduceLT, Int.reduceLE, Int.reduceAdd, Int.reduceSub, Int.reduceNeg, Int.reduceToNat, undef, Value.cells, axL]; try rfl) ?_
  refine isNaN_spec X b ?_
  repeat' (first
      | (with_reducible first | refine go_assoc ?_ (Ev.mono _ _) | refine go_skip ?_ | refine go_fin ?_ | refine go_ret ?_ | refine go_ret0 ?_ | refine go_exit ?_ | refine go_exit0 ?_ | refine go_block ?_ | refine n_then ?_ | refine x_then ?_ | refine r_then ?_ | refine n_block ?_ | refine r_block ?_ | refine x_block ?_ | refine x_block_ne ?_ (by decide))
      | (with_reducible refine is_k ?_; refine go_k _ (by simp only [Ax.runK, Ax.runOps, Ax.run1, Ax.wantA, Ax.step, Ax.ev, Ax.evs, Ax.evo, Ax.evp, Ax.look, Ax.putE, Ax.keepE, Ax.argsE, Ax.extr, Ax.binV, Ax.intBin, Ax.unV, Ax.addOff, Ax.sizeN, Ax.mkV, Ax.okV, reduceIte, Nat.reduceEqDiff, Nat.reduceAdd, Nat.reduceLeDiff, Nat.reduceLT, Nat.reduceSub, Nat.reduceMul, reduceCtorEq, Int.reduceEq, Int.reduceLT, Int.reduceLE, Int.reduceAdd, Int.reduceSub, Int.reduceNeg, Int.reduceToNat, undef, Value.cells, axL]; rfl) rfl ?_)
      | (with_reducible refine cond_t ?_ ?_; · simp only [Ax.ev, Ax.look, reduceIte, Nat.reduceEqDiff])
      | (with_reducible refine cond_f ?_ ?_; · simp only [Ax.ev, Ax.look, reduceIte, Nat.reduceEqDiff])
      | (with_reducible refine is_rp ?_; first | refine r_postR rfl ?_ | refine r_postR (by simp only [Ax.result, Ax.resVs, Ax.resV, R40, Ax.look, sizeN, mkV, Nat.reduceEqDiff, reduceIte, axL]; rfl) ?_)
      | (with_reducible refine is_np ?_; first | refine n_postR rfl ?_ | refine n_postR (by simp only [Ax.result, Ax.resVs, Ax.resV, R40, Ax.look, sizeN, mkV, Nat.reduceEqDiff, reduceIte, axL]; rfl) ?_)
      | (first | with_reducible refine is_wd ?_ | with_reducible refine dk_wd ?_); refine go_dt _ (by simp only [Ax.runDK, Ax.runDT, Ax.runDops, Ax.run1d, Ax.recs, Ax.okPair, Ax.idsE, Ax.idsV, AOp.mems, AOp.isWrite, DRec.none, axD, Ax.runK, Ax.runOps, Ax.run1, Ax.wantA, Ax.step, Ax.ev, Ax.evs, Ax.evo, Ax.evp, Ax.look, Ax.putE, Ax.keepE, Ax.argsE, Ax.extr, Ax.binV, Ax.intBin, Ax.unV, Ax.addOff, Ax.sizeN, Ax.mkV, Ax.okV, reduceIte, Nat.reduceEqDiff, Nat.reduceAdd, Nat.reduceLeDiff, Nat.reduceLT, Nat.reduceSub, Nat.reduceMul, reduceCtorEq, Int.reduceEq, Int.reduceLT, Int.reduceLE, Int.reduceAdd, Int.reduceSub, Int.reduceNeg, Int.reduceToNat, undef, Value.cells, axL]; rfl) rfl ?_
      | (with_reducible first | refine end_reg (Ev.mono _ _) ?_ | refine end_dreg (Ev.mono _ _) ?_ | refine end_cond (Ev.mono _ _) ?_ | refine end_block (Ev.mono _ _) ?_ | refine end_loop (Ev.mono _ _) ?_))
  refine cond_d rfl (fun h => ?_) (fun h => ?_)
  · repeat' (first
      | (with_reducible first | refine go_assoc ?_ (Ev.mono _ _) | refine go_skip ?_ | refine go_fin ?_ | refine go_ret ?_ | refine go_ret0 ?_ | refine go_exit ?_ | refine go_exit0 ?_ | refine go_block ?_ | refine n_then ?_ | refine x_then ?_ | refine r_then ?_ | refine n_block ?_ | refine r_block ?_ | refine x_block ?_ | refine x_block_ne ?_ (by decide))
      | (with_reducible refine is_k ?_; refine go_k _ (by simp only [Ax.runK, Ax.runOps, Ax.run1, Ax.wantA, Ax.step, Ax.ev, Ax.evs, Ax.evo, Ax.evp, Ax.look, Ax.putE, Ax.keepE, Ax.argsE, Ax.extr, Ax.binV, Ax.intBin, Ax.unV, Ax.addOff, Ax.sizeN, Ax.mkV, Ax.okV, reduceIte, Nat.reduceEqDiff, Nat.reduceAdd, Nat.reduceLeDiff, Nat.reduceLT, Nat.reduceSub, Nat.reduceMul, reduceCtorEq, Int.reduceEq, Int.reduceLT, Int.reduceLE, Int.reduceAdd, Int.reduceSub, Int.reduceNeg, Int.reduceToNat, undef, Value.cells, axL]; rfl) rfl ?_)
      | (with_reducible refine cond_t ?_ ?_; · simp only [Ax.ev, Ax.look, reduceIte, Nat.reduceEqDiff])
      | (with_reducible refine cond_f ?_ ?_; · simp only [Ax.ev, Ax.look, reduceIte, Nat.reduceEqDiff])
      | (with_reducible refine is_rp ?_; first | refine r_postR rfl ?_ | refine r_postR (by simp only [Ax.result, Ax.resVs, Ax.resV, R40, Ax.look, sizeN, mkV, Nat.reduceEqDiff, reduceIte, axL]; rfl) ?_)
      | (with_reducible refine is_np ?_; first | refine n_postR rfl ?_ | refine n_postR (by simp only [Ax.result, Ax.resVs, Ax.resV, R40, Ax.look, sizeN, mkV, Nat.reduceEqDiff, reduceIte, axL]; rfl) ?_)
      | (first | with_reducible refine is_wd ?_ | with_reducible refine dk_wd ?_); refine go_dt _ (by simp only [Ax.runDK, Ax.runDT, Ax.runDops, Ax.run1d, Ax.recs, Ax.okPair, Ax.idsE, Ax.idsV, AOp.mems, AOp.isWrite, DRec.none, axD, Ax.runK, Ax.runOps, Ax.run1, Ax.wantA, Ax.step, Ax.ev, Ax.evs, Ax.evo, Ax.evp, Ax.look, Ax.putE, Ax.keepE, Ax.argsE, Ax.extr, Ax.binV, Ax.intBin, Ax.unV, Ax.addOff, Ax.sizeN, Ax.mkV, Ax.okV, reduceIte, Nat.reduceEqDiff, Nat.reduceAdd, Nat.reduceLeDiff, Nat.reduceLT, Nat.reduceSub, Nat.reduceMul, reduceCtorEq, Int.reduceEq, Int.reduceLT, Int.reduceLE, Int.reduceAdd, Int.reduceSub, Int.reduceNeg, Int.reduceToNat, undef, Value.cells, axL]; rfl) rfl ?_
      | (with_reducible first | refine end_reg (Ev.mono _ _) ?_ | refine end_dreg (Ev.mono _ _) ?_ | refine end_cond (Ev.mono _ _) ?_ | refine end_block (Ev.mono _ _) ?_ | refine end_loop (Ev.mono _ _) ?_))
    simpa [cmpI, h] using hq
  · repeat' (first
      | (with_reducible first | refine go_assoc ?_ (Ev.mono _ _) | refine go_skip ?_ | refine go_fin ?_ | refine go_ret ?_ | refine go_ret0 ?_ | refine go_exit ?_ | refine go_exit0 ?_ | refine go_block ?_ | refine n_then ?_ | refine x_then ?_ | refine r_then ?_ | refine n_block ?_ | refine r_block ?_ | refine x_block ?_ | refine x_block_ne ?_ (by decide))
      | (with_reducible refine is_k ?_; refine go_k _ (by simp only [Ax.runK, Ax.runOps, Ax.run1, Ax.wantA, Ax.step, Ax.ev, Ax.evs, Ax.evo, Ax.evp, Ax.look, Ax.putE, Ax.keepE, Ax.argsE, Ax.extr, Ax.binV, Ax.intBin, Ax.unV, Ax.addOff, Ax.sizeN, Ax.mkV, Ax.okV, reduceIte, Nat.reduceEqDiff, Nat.reduceAdd, Nat.reduceLeDiff, Nat.reduceLT, Nat.reduceSub, Nat.reduceMul, reduceCtorEq, Int.reduceEq, Int.reduceLT, Int.reduceLE, Int.reduceAdd, Int.reduceSub, Int.reduceNeg, Int.reduceToNat, undef, Value.cells, axL]; rfl) rfl ?_)
      | (with_reducible refine cond_t ?_ ?_; · simp only [Ax.ev, Ax.look, reduceIte, Nat.reduceEqDiff])
      | (with_reducible refine cond_f ?_ ?_; · simp only [Ax.ev, Ax.look, reduceIte, Nat.reduceEqDiff])
      | (with_reducible refine is_rp ?_; first | refine r_postR rfl ?_ | refine r_postR (by simp only [Ax.result, Ax.resVs, Ax.resV, R40, Ax.look, sizeN, mkV, Nat.reduceEqDiff, reduceIte, axL]; rfl) ?_)
      | (with_reducible refine is_np ?_; first | refine n_postR rfl ?_ | refine n_postR (by simp only [Ax.result, Ax.resVs, Ax.resV, R40, Ax.look, sizeN, mkV, Nat.reduceEqDiff, reduceIte, axL]; rfl) ?_)
      | (first | with_reducible refine is_wd ?_ | with_reducible refine dk_wd ?_); refine go_dt _ (by simp only [Ax.runDK, Ax.runDT, Ax.runDops, Ax.run1d, Ax.recs, Ax.okPair, Ax.idsE, Ax.idsV, AOp.mems, AOp.isWrite, DRec.none, axD, Ax.runK, Ax.runOps, Ax.run1, Ax.wantA, Ax.step, Ax.ev, Ax.evs, Ax.evo, Ax.evp, Ax.look, Ax.putE, Ax.keepE, Ax.argsE, Ax.extr, Ax.binV, Ax.intBin, Ax.unV, Ax.addOff, Ax.sizeN, Ax.mkV, Ax.okV, reduceIte, Nat.reduceEqDiff, Nat.reduceAdd, Nat.reduceLeDiff, Nat.reduceLT, Nat.reduceSub, Nat.reduceMul, reduceCtorEq, Int.reduceEq, Int.reduceLT, Int.reduceLE, Int.reduceAdd, Int.reduceSub, Int.reduceNeg, Int.reduceToNat, undef, Value.cells, axL]; rfl) rfl ?_
      | (with_reducible first | refine end_reg (Ev.mono _ _) ?_ | refine end_dreg (Ev.mono _ _) ?_ | refine end_cond (Ev.mono _ _) ?_ | refine end_block (Ev.mono _ _) ?_ | refine end_loop (Ev.mono _ _) ?_))
    refine cond_d rfl (fun h2 => ?_) (fun h2 => ?_)
    · repeat' (first
      | (with_reducible first | refine go_assoc ?_ (Ev.mono _ _) | refine go_skip ?_ | refine go_fin ?_ | refine go_ret ?_ | refine go_ret0 ?_ | refine go_exit ?_ | refine go_exit0 ?_ | refine go_block ?_ | refine n_then ?_ | refine x_then ?_ | refine r_then ?_ | refine n_block ?_ | refine r_block ?_ | refine x_block ?_ | refine x_block_ne ?_ (by decide))
      | (with_reducible refine is_k ?_; refine go_k _ (by simp only [Ax.runK, Ax.runOps, Ax.run1, Ax.wantA, Ax.step, Ax.ev, Ax.evs, Ax.evo, Ax.evp, Ax.look, Ax.putE, Ax.keepE, Ax.argsE, Ax.extr, Ax.binV, Ax.intBin, Ax.unV, Ax.addOff, Ax.sizeN, Ax.mkV, Ax.okV, reduceIte, Nat.reduceEqDiff, Nat.reduceAdd, Nat.reduceLeDiff, Nat.reduceLT, Nat.reduceSub, Nat.reduceMul, reduceCtorEq, Int.reduceEq, Int.reduceLT, Int.reduceLE, Int.reduceAdd, Int.reduceSub, Int.reduceNeg, Int.reduceToNat, undef, Value.cells, axL]; rfl) rfl ?_)
      | (with_reducible refine cond_t ?_ ?_; · simp only [Ax.ev, Ax.look, reduceIte, Nat.reduceEqDiff])
      | (with_reducible refine cond_f ?_ ?_; · simp only [Ax.ev, Ax.look, reduceIte, Nat.reduceEqDiff])
      | (with_reducible refine is_rp ?_; first | refine r_postR rfl ?_ | refine r_postR (by simp only [Ax.result, Ax.resVs, Ax.resV, R40, Ax.look, sizeN, mkV, Nat.reduceEqDiff, reduceIte, axL]; rfl) ?_)
      | (with_reducible refine is_np ?_; first | refine n_postR rfl ?_ | refine n_postR (by simp only [Ax.result, Ax.resVs, Ax.resV, R40, Ax.look, sizeN, mkV, Nat.reduceEqDiff, reduceIte, axL]; rfl) ?_)
      | (first | with_reducible refine is_wd ?_ | with_reducible refine dk_wd ?_); refine go_dt _ (by simp only [Ax.runDK, Ax.runDT, Ax.runDops, Ax.run1d, Ax.recs, Ax.okPair, Ax.idsE, Ax.idsV, AOp.mems, AOp.isWrite, DRec.none, axD, Ax.runK, Ax.runOps, Ax.run1, Ax.wantA, Ax.step, Ax.ev, Ax.evs, Ax.evo, Ax.evp, Ax.look, Ax.putE, Ax.keepE, Ax.argsE, Ax.extr, Ax.binV, Ax.intBin, Ax.unV, Ax.addOff, Ax.sizeN, Ax.mkV, Ax.okV, reduceIte, Nat.reduceEqDiff, Nat.reduceAdd, Nat.reduceLeDiff, Nat.reduceLT, Nat.reduceSub, Nat.reduceMul, reduceCtorEq, Int.reduceEq, Int.reduceLT, Int.reduceLE, Int.reduceAdd, Int.reduceSub, Int.reduceNeg, Int.reduceToNat, undef, Value.cells, axL]; rfl) rfl ?_
      | (with_reducible first | refine end_reg (Ev.mono _ _) ?_ | refine end_dreg (Ev.mono _ _) ?_ | refine end_cond (Ev.mono _ _) ?_ | refine end_block (Ev.mono _ _) ?_ | refine end_loop (Ev.mono _ _) ?_))
      simpa [cmpI, h, h2] using hq
    · repeat' (first
      | (with_reducible first | refine go_assoc ?_ (Ev.mono _ _) | refine go_skip ?_ | refine go_fin ?_ | refine go_ret ?_ | refine go_ret0 ?_ | refine go_exit ?_ | refine go_exit0 ?_ | refine go_block ?_ | refine n_then ?_ | refine x_then ?_ | refine r_then ?_ | refine n_block ?_ | refine r_block ?_ | refine x_block ?_ | refine x_block_ne ?_ (by decide))
      | (with_reducible refine is_k ?_; refine go_k _ (by simp only [Ax.runK, Ax.runOps, Ax.run1, Ax.wantA, Ax.step, Ax.ev, Ax.evs, Ax.evo, Ax.evp, Ax.look, Ax.putE, Ax.keepE, Ax.argsE, Ax.extr, Ax.binV, Ax.intBin, Ax.unV, Ax.addOff, Ax.sizeN, Ax.mkV, Ax.okV, reduceIte, Nat.reduceEqDiff, Nat.reduceAdd, Nat.reduceLeDiff, Nat.reduceLT, Nat.reduceSub, Nat.reduceMul, reduceCtorEq, Int.reduceEq, Int.reduceLT, Int.reduceLE, Int.reduceAdd, Int.reduceSub, Int.reduceNeg, Int.reduceToNat, undef, Value.cells, axL]; rfl) rfl ?_)
      | (with_reducible refine cond_t ?_ ?_; · simp only [Ax.ev, Ax.look, reduceIte, Nat.reduceEqDiff])
      | (with_reducible refine cond_f ?_ ?_; · simp only [Ax.ev, Ax.look, reduceIte, Nat.reduceEqDiff])
      | (with_reducible refine is_rp ?_; first | refine r_postR rfl ?_ | refine r_postR (by simp only [Ax.result, Ax.resVs, Ax.resV, R40, Ax.look, sizeN, mkV, Nat.reduceEqDiff, reduceIte, axL]; rfl) ?_)
      | (with_reducible refine is_np ?_; first | refine n_postR rfl ?_ | refine n_postR (by simp only [Ax.result, Ax.resVs, Ax.resV, R40, Ax.look, sizeN, mkV, Nat.reduceEqDiff, reduceIte, axL]; rfl) ?_)
      | (first | with_reducible refine is_wd ?_ | with_reducible refine dk_wd ?_); refine go_dt _ (by simp only [Ax.runDK, Ax.runDT, Ax.runDops, Ax.run1d, Ax.recs, Ax.okPair, Ax.idsE, Ax.idsV, AOp.mems, AOp.isWrite, DRec.none, axD, Ax.runK, Ax.runOps, Ax.run1, Ax.wantA, Ax.step, Ax.ev, Ax.evs, Ax.evo, Ax.evp, Ax.look, Ax.putE, Ax.keepE, Ax.argsE, Ax.extr, Ax.binV, Ax.intBin, Ax.unV, Ax.addOff, Ax.sizeN, Ax.mkV, Ax.okV, reduceIte, Nat.reduceEqDiff, Nat.reduceAdd, Nat.reduceLeDiff, Nat.reduceLT, Nat.reduceSub, Nat.reduceMul, reduceCtorEq, Int.reduceEq, Int.reduceLT, Int.reduceLE, Int.reduceAdd, Int.reduceSub, Int.reduceNeg, Int.reduceToNat, undef, Value.cells, axL]; rfl) rfl ?_
      | (with_reducible first | refine end_reg (Ev.mono _ _) ?_ | refine end_dreg (Ev.mono _ _) ?_ | refine end_cond (Ev.mono _ _) ?_ | refine end_block (Ev.mono _ _) ?_ | refine end_loop (Ev.mono _ _) ?_))
      simpa [cmpI, h, h2] using hq

theorem or_spec (X : Nat → List Value → Option Value) (a b : Int) (c : Nat) {S : AS} {Q : Value → AS → Prop} (hq : Q (.int .i64 (if a ≠ 0 then a else b)) S) {i : Nat} (hi : S.h i = some (.cells false [.int .i64 a, .int .i64 b])) : Ev G X 39 [.slice (some ⟨i, 0, none⟩) 2 c] S Q := by
  refine Ev.fnR (rs := R39) (c := A39) rfl ?_
  unfold A39
  repeat' (first
      | (with_reducible first | refine go_assoc ?_ (Ev.mono _ _) | refine go_skip ?_ | refine go_fin ?_ | refine go_ret ?_ | refine go_ret0 ?_ | refine go_exit ?_ | refine go_exit0 ?_ | refine go_block ?_ | refine n_then ?_ | refine x_then ?_ | refine r_then ?_ | refine n_block ?_ | refine r_block ?_ | refine x_block ?_ | refine x_block_ne ?_ (by decide))
      | (with_reducible refine is_k ?_; refine go_k _ (by simp only [Ax.runK, Ax.runOps, Ax.run1, Ax.wantA, Ax.step, Ax.ev, Ax.evs, Ax.evo, Ax.evp, Ax.look, Ax.putE, Ax.keepE, Ax.argsE, Ax.extr, Ax.binV, Ax.intBin, Ax.unV, Ax.addOff, Ax.sizeN, Ax.mkV, Ax.okV, reduceIte, Nat.reduceEqDiff, Nat.reduceAdd, Nat.reduceLeDiff, Nat.reduceLT, Nat.reduceSub, Nat.reduceMul, reduceCtorEq, Int.reduceEq, Int.reduceLT, Int.reduceLE, Int.reduceAdd, Int.reduceSub, Int.reduceNeg, Int.reduceToNat, undef, Value.cells, axL, lenV]; rfl) rfl ?_)
      | (with_reducible refine cond_t ?_ ?_; · simp only [Ax.ev, Ax.look, reduceIte, Nat.reduceEqDiff])
      | (with_reducible refine cond_f ?_ ?_; · simp only [Ax.ev, Ax.look, reduceIte, Nat.reduceEqDiff])
      | (with_reducible refine is_rp ?_; first | refine r_postR rfl ?_ | refine r_postR (by simp only [Ax.result, Ax.resVs, Ax.resV, R39, Ax.look, sizeN, mkV, Nat.reduceEqDiff, reduceIte, axL, lenV]; rfl) ?_)
      | (with_reducible refine is_np ?_; first | refine n_postR rfl ?_ | refine n_postR (by simp only [Ax.result, Ax.resVs, Ax.resV, R39, Ax.look, sizeN, mkV, Nat.reduceEqDiff, reduceIte, axL, lenV]; rfl) ?_)
      | (first | with_reducible refine is_wd ?_ | with_reducible refine dk_wd ?_); refine go_dt _ (by simp only [Ax.runDK, Ax.runDT, Ax.runDops, Ax.run1d, Ax.recs, Ax.okPair, Ax.idsE, Ax.idsV, AOp.mems, AOp.isWrite, DRec.none, axD, Ax.runK, Ax.runOps, Ax.run1, Ax.wantA, Ax.step, Ax.ev, Ax.evs, Ax.evo, Ax.evp, Ax.look, Ax.putE, Ax.keepE, Ax.argsE, Ax.extr, Ax.binV, Ax.intBin, Ax.unV, Ax.addOff, Ax.sizeN, Ax.mkV, Ax.okV, reduceIte, Nat.reduceEqDiff, Nat.reduceAdd, Nat.reduceLeDiff, Nat.reduceLT, Nat.reduceSub, Nat.reduceMul, reduceCtorEq, Int.reduceEq, Int.reduceLT, Int.reduceLE, Int.reduceAdd, Int.reduceSub, Int.reduceNeg, Int.reduceToNat, undef, Value.cells, axL, lenV]; rfl) rfl ?_
      | (with_reducible first | refine end_reg (Ev.mono _ _) ?_ | refine end_dreg (Ev.mono _ _) ?_ | refine end_cond (Ev.mono _ _) ?_ | refine end_block (Ev.mono _ _) ?_ | refine end_loop (Ev.mono _ _) ?_))
  refine unroll ?_
  repeat' (first
      | (with_reducible first | refine go_assoc ?_ (Ev.mono _ _) | refine go_skip ?_ | refine go_fin ?_ | refine go_ret ?_ | refine go_ret0 ?_ | refine go_exit ?_ | refine go_exit0 ?_ | refine go_block ?_ | refine n_then ?_ | refine x_then ?_ | refine r_then ?_ | refine n_block ?_ | refine r_block ?_ | refine x_block ?_ | refine x_block_ne ?_ (by decide))
      | (with_reducible refine is_k ?_; refine go_k _ (by simp only [Ax.runK, Ax.runOps, Ax.run1, Ax.wantA, Ax.step, Ax.ev, Ax.evs, Ax.evo, Ax.evp, Ax.look, Ax.putE, Ax.keepE, Ax.argsE, Ax.extr, Ax.binV, Ax.intBin, Ax.unV, Ax.addOff, Ax.sizeN, Ax.mkV, Ax.okV, reduceIte, Nat.reduceEqDiff, Nat.reduceAdd, Nat.reduceLeDiff, Nat.reduceLT, Nat.reduceSub, Nat.reduceMul, reduceCtorEq, Int.reduceEq, Int.reduceLT, Int.reduceLE, Int.reduceAdd, Int.reduceSub, Int.reduceNeg, Int.reduceToNat, undef, Value.cells, axL, idxSl, get1 hi]; rfl) rfl ?_)
      | (with_reducible refine cond_t ?_ ?_; · simp only [Ax.ev, Ax.look, reduceIte, Nat.reduceEqDiff])
      | (with_reducible refine cond_f ?_ ?_; · simp only [Ax.ev, Ax.look, reduceIte, Nat.reduceEqDiff])
      | (with_reducible refine is_rp ?_; first | refine r_postR rfl ?_ | refine r_postR (by simp only [Ax.result, Ax.resVs, Ax.resV, R39, Ax.look, sizeN, mkV, Nat.reduceEqDiff, reduceIte, axL, idxSl, get1 hi]; rfl) ?_)
      | (with_reducible refine is_np ?_; first | refine n_postR rfl ?_ | refine n_postR (by simp only [Ax.result, Ax.resVs, Ax.resV, R39, Ax.look, sizeN, mkV, Nat.reduceEqDiff, reduceIte, axL, idxSl, get1 hi]; rfl) ?_)
      | (first | with_reducible refine is_wd ?_ | with_reducible refine dk_wd ?_); refine go_dt _ (by simp only [Ax.runDK, Ax.runDT, Ax.runDops, Ax.run1d, Ax.recs, Ax.okPair, Ax.idsE, Ax.idsV, AOp.mems, AOp.isWrite, DRec.none, axD, Ax.runK, Ax.runOps, Ax.run1, Ax.wantA, Ax.step, Ax.ev, Ax.evs, Ax.evo, Ax.evp, Ax.look, Ax.putE, Ax.keepE, Ax.argsE, Ax.extr, Ax.binV, Ax.intBin, Ax.unV, Ax.addOff, Ax.sizeN, Ax.mkV, Ax.okV, reduceIte, Nat.reduceEqDiff, Nat.reduceAdd, Nat.reduceLeDiff, Nat.reduceLT, Nat.reduceSub, Nat.reduceMul, reduceCtorEq, Int.reduceEq, Int.reduceLT, Int.reduceLE, Int.reduceAdd, Int.reduceSub, Int.reduceNeg, Int.reduceToNat, undef, Value.cells, axL, idxSl, get1 hi]; rfl) rfl ?_
      | (with_reducible first | refine end_reg (Ev.mono _ _) ?_ | refine end_dreg (Ev.mono _ _) ?_ | refine end_cond (Ev.mono _ _) ?_ | refine end_block (Ev.mono _ _) ?_ | refine end_loop (Ev.mono _ _) ?_))
  refine cond_d rfl (fun h => ?_) (fun h => ?_)
  · repeat' (first
      | (with_reducible first | refine go_assoc ?_ (Ev.mono _ _) | refine go_skip ?_ | refine go_fin ?_ | refine go_ret ?_ | refine go_ret0 ?_ | refine go_exit ?_ | refine go_exit0 ?_ | refine go_block ?_ | refine n_then ?_ | refine x_then ?_ | refine r_then ?_ | refine n_block ?_ | refine r_block ?_ | refine x_block ?_ | refine x_block_ne ?_ (by decide))
      | (with_reducible refine is_k ?_; refine go_k _ (by simp only [Ax.runK, Ax.runOps, Ax.run1, Ax.wantA, Ax.step, Ax.ev, Ax.evs, Ax.evo, Ax.evp, Ax.look, Ax.putE, Ax.keepE, Ax.argsE, Ax.extr, Ax.binV, Ax.intBin, Ax.unV, Ax.addOff, Ax.sizeN, Ax.mkV, Ax.okV, reduceIte, Nat.reduceEqDiff, Nat.reduceAdd, Nat.reduceLeDiff, Nat.reduceLT, Nat.reduceSub, Nat.reduceMul, reduceCtorEq, Int.reduceEq, Int.reduceLT, Int.reduceLE, Int.reduceAdd, Int.reduceSub, Int.reduceNeg, Int.reduceToNat, undef, Value.cells, axL]; rfl) rfl ?_)
      | (with_reducible refine cond_t ?_ ?_; · simp only [Ax.ev, Ax.look, reduceIte, Nat.reduceEqDiff])
      | (with_reducible refine cond_f ?_ ?_; · simp only [Ax.ev, Ax.look, reduceIte, Nat.reduceEqDiff])
      | (with_reducible refine is_rp ?_; first | refine r_postR rfl ?_ | refine r_postR (by simp only [Ax.result, Ax.resVs, Ax.resV, R39, Ax.look, sizeN, mkV, Nat.reduceEqDiff, reduceIte, axL]; rfl) ?_)
      | (with_reducible refine is_np ?_; first | refine n_postR rfl ?_ | refine n_postR (by simp only [Ax.result, Ax.resVs, Ax.resV, R39, Ax.look, sizeN, mkV, Nat.reduceEqDiff, reduceIte, axL]; rfl) ?_)
      | (first | with_reducible refine is_wd ?_ | with_reducible refine dk_wd ?_); refine go_dt _ (by simp only [Ax.runDK, Ax.runDT, Ax.runDops, Ax.run1d, Ax.recs, Ax.okPair, Ax.idsE, Ax.idsV, AOp.mems, AOp.isWrite, DRec.none, axD, Ax.runK, Ax.runOps, Ax.run1, Ax.wantA, Ax.step, Ax.ev, Ax.evs, Ax.evo, Ax.evp, Ax.look, Ax.putE, Ax.keepE, Ax.argsE, Ax.extr, Ax.binV, Ax.intBin, Ax.unV, Ax.addOff, Ax.sizeN, Ax.mkV, Ax.okV, reduceIte, Nat.reduceEqDiff, Nat.reduceAdd, Nat.reduceLeDiff, Nat.reduceLT, Nat.reduceSub, Nat.reduceMul, reduceCtorEq, Int.reduceEq, Int.reduceLT, Int.reduceLE, Int.reduceAdd, Int.reduceSub, Int.reduceNeg, Int.reduceToNat, undef, Value.cells, axL]; rfl) rfl ?_
      | (with_reducible first | refine end_reg (Ev.mono _ _) ?_ | refine end_dreg (Ev.mono _ _) ?_ | refine end_cond (Ev.mono _ _) ?_ | refine end_block (Ev.mono _ _) ?_ | refine end_loop (Ev.mono _ _) ?_))
    simpa [h] using hq
  · repeat' (first
      | (with_reducible first | refine go_assoc ?_ (Ev.mono _ _) | refine go_skip ?_ | refine go_fin ?_ | refine go_ret ?_ | refine go_ret0 ?_ | refine go_exit ?_ | refine go_exit0 ?_ | refine go_block ?_ | refine n_then ?_ | refine x_then ?_ | refine r_then ?_ | refine n_block ?_ | refine r_block ?_ | refine x_block ?_ | refine x_block_ne ?_ (by decide))
      | (with_reducible refine is_k ?_; refine go_k _ (by simp only [Ax.runK, Ax.runOps, Ax.run1, Ax.wantA, Ax.step, Ax.ev, Ax.evs, Ax.evo, Ax.evp, Ax.look, Ax.putE, Ax.keepE, Ax.argsE, Ax.extr, Ax.binV, Ax.intBin, Ax.unV, Ax.addOff, Ax.sizeN, Ax.mkV, Ax.okV, reduceIte, Nat.reduceEqDiff, Nat.reduceAdd, Nat.reduceLeDiff, Nat.reduceLT, Nat.reduceSub, Nat.reduceMul, reduceCtorEq, Int.reduceEq, Int.reduceLT, Int.reduceLE, Int.reduceAdd, Int.reduceSub, Int.reduceNeg, Int.reduceToNat, undef, Value.cells, axL, wrapI (show I64 1 from by unfold I64; omega)]; rfl) rfl ?_)
      | (with_reducible refine cond_t ?_ ?_; · simp only [Ax.ev, Ax.look, reduceIte, Nat.reduceEqDiff])
      | (with_reducible refine cond_f ?_ ?_; · simp only [Ax.ev, Ax.look, reduceIte, Nat.reduceEqDiff])
      | (with_reducible refine is_rp ?_; first | refine r_postR rfl ?_ | refine r_postR (by simp only [Ax.result, Ax.resVs, Ax.resV, R39, Ax.look, sizeN, mkV, Nat.reduceEqDiff, reduceIte, axL, wrapI (show I64 1 from by unfold I64; omega)]; rfl) ?_)
      | (with_reducible refine is_np ?_; first | refine n_postR rfl ?_ | refine n_postR (by simp only [Ax.result, Ax.resVs, Ax.resV, R39, Ax.look, sizeN, mkV, Nat.reduceEqDiff, reduceIte, axL, wrapI (show I64 1 from by unfold I64; omega)]; rfl) ?_)
      | (first | with_reducible refine is_wd ?_ | with_reducible refine dk_wd ?_); refine go_dt _ (by simp only [Ax.runDK, Ax.runDT, Ax.runDops, Ax.run1d, Ax.recs, Ax.okPair, Ax.idsE, Ax.idsV, AOp.mems, AOp.isWrite, DRec.none, axD, Ax.runK, Ax.runOps, Ax.run1, Ax.wantA, Ax.step, Ax.ev, Ax.evs, Ax.evo, Ax.evp, Ax.look, Ax.putE, Ax.keepE, Ax.argsE, Ax.extr, Ax.binV, Ax.intBin, Ax.unV, Ax.addOff, Ax.sizeN, Ax.mkV, Ax.okV, reduceIte, Nat.reduceEqDiff, Nat.reduceAdd, Nat.reduceLeDiff, Nat.reduceLT, Nat.reduceSub, Nat.reduceMul, reduceCtorEq, Int.reduceEq, Int.reduceLT, Int.reduceLE, Int.reduceAdd, Int.reduceSub, Int.reduceNeg, Int.reduceToNat, undef, Value.cells, axL, wrapI (show I64 1 from by unfold I64; omega)]; rfl) rfl ?_
      | (with_reducible first | refine end_reg (Ev.mono _ _) ?_ | refine end_dreg (Ev.mono _ _) ?_ | refine end_cond (Ev.mono _ _) ?_ | refine end_block (Ev.mono _ _) ?_ | refine end_loop (Ev.mono _ _) ?_))
    refine unroll ?_
    repeat' (first
      | (with_reducible first | refine go_assoc ?_ (Ev.mono _ _) | refine go_skip ?_ | refine go_fin ?_ | refine go_ret ?_ | refine go_ret0 ?_ | refine go_exit ?_ | refine go_exit0 ?_ | refine go_block ?_ | refine n_then ?_ | refine x_then ?_ | refine r_then ?_ | refine n_block ?_ | refine r_block ?_ | refine x_block ?_ | refine x_block_ne ?_ (by decide))
      | (with_reducible refine is_k ?_; refine go_k _ (by simp only [Ax.runK, Ax.runOps, Ax.run1, Ax.wantA, Ax.step, Ax.ev, Ax.evs, Ax.evo, Ax.evp, Ax.look, Ax.putE, Ax.keepE, Ax.argsE, Ax.extr, Ax.binV, Ax.intBin, Ax.unV, Ax.addOff, Ax.sizeN, Ax.mkV, Ax.okV, reduceIte, Nat.reduceEqDiff, Nat.reduceAdd, Nat.reduceLeDiff, Nat.reduceLT, Nat.reduceSub, Nat.reduceMul, reduceCtorEq, Int.reduceEq, Int.reduceLT, Int.reduceLE, Int.reduceAdd, Int.reduceSub, Int.reduceNeg, Int.reduceToNat, undef, Value.cells, axL, idxSl, get1 hi]; rfl) rfl ?_)
      | (with_reducible refine cond_t ?_ ?_; · simp only [Ax.ev, Ax.look, reduceIte, Nat.reduceEqDiff])
      | (with_reducible refine cond_f ?_ ?_; · simp only [Ax.ev, Ax.look, reduceIte, Nat.reduceEqDiff])
      | (with_reducible refine is_rp ?_; first | refine r_postR rfl ?_ | refine r_postR (by simp only [Ax.result, Ax.resVs, Ax.resV, R39, Ax.look, sizeN, mkV, Nat.reduceEqDiff, reduceIte, axL, idxSl, get1 hi]; rfl) ?_)
      | (with_reducible refine is_np ?_; first | refine n_postR rfl ?_ | refine n_postR (by simp only [Ax.result, Ax.resVs, Ax.resV, R39, Ax.look, sizeN, mkV, Nat.reduceEqDiff, reduceIte, axL, idxSl, get1 hi]; rfl) ?_)
      | (first | with_reducible refine is_wd ?_ | with_reducible refine dk_wd ?_); refine go_dt _ (by simp only [Ax.runDK, Ax.runDT, Ax.runDops, Ax.run1d, Ax.recs, Ax.okPair, Ax.idsE, Ax.idsV, AOp.mems, AOp.isWrite, DRec.none, axD, Ax.runK, Ax.runOps, Ax.run1, Ax.wantA, Ax.step, Ax.ev, Ax.evs, Ax.evo, Ax.evp, Ax.look, Ax.putE, Ax.keepE, Ax.argsE, Ax.extr, Ax.binV, Ax.intBin, Ax.unV, Ax.addOff, Ax.sizeN, Ax.mkV, Ax.okV, reduceIte, Nat.reduceEqDiff, Nat.reduceAdd, Nat.reduceLeDiff, Nat.reduceLT, Nat.reduceSub, Nat.reduceMul, reduceCtorEq, Int.reduceEq, Int.reduceLT, Int.reduceLE, Int.reduceAdd, Int.reduceSub, Int.reduceNeg, Int.reduceToNat, undef, Value.cells, axL, idxSl, get1 hi]; rfl) rfl ?_
      | (with_reducible first | refine end_reg (Ev.mono _ _) ?_ | refine end_dreg (Ev.mono _ _) ?_ | refine end_cond (Ev.mono _ _) ?_ | refine end_block (Ev.mono _ _) ?_ | refine end_loop (Ev.mono _ _) ?_))
    refine cond_d rfl (fun h2 => ?_) (fun h2 => ?_)
    · repeat' (first
      | (with_reducible first | refine go_assoc ?_ (Ev.mono _ _) | refine go_skip ?_ | refine go_fin ?_ | refine go_ret ?_ | refine go_ret0 ?_ | refine go_exit ?_ | refine go_exit0 ?_ | refine go_block ?_ | refine n_then ?_ | refine x_then ?_ | refine r_then ?_ | refine n_block ?_ | refine r_block ?_ | refine x_block ?_ | refine x_block_ne ?_ (by decide))
      | (with_reducible refine is_k ?_; refine go_k _ (by simp only [Ax.runK, Ax.runOps, Ax.run1, Ax.wantA, Ax.step, Ax.ev, Ax.evs, Ax.evo, Ax.evp, Ax.look, Ax.putE, Ax.keepE, Ax.argsE, Ax.extr, Ax.binV, Ax.intBin, Ax.unV, Ax.addOff, Ax.sizeN, Ax.mkV, Ax.okV, reduceIte, Nat.reduceEqDiff, Nat.reduceAdd, Nat.reduceLeDiff, Nat.reduceLT, Nat.reduceSub, Nat.reduceMul, reduceCtorEq, Int.reduceEq, Int.reduceLT, Int.reduceLE, Int.reduceAdd, Int.reduceSub, Int.reduceNeg, Int.reduceToNat, undef, Value.cells, axL]; rfl) rfl ?_)
      | (with_reducible refine cond_t ?_ ?_; · simp only [Ax.ev, Ax.look, reduceIte, Nat.reduceEqDiff])
      | (with_reducible refine cond_f ?_ ?_; · simp only [Ax.ev, Ax.look, reduceIte, Nat.reduceEqDiff])
      | (with_reducible refine is_rp ?_; first | refine r_postR rfl ?_ | refine r_postR (by simp only [Ax.result, Ax.resVs, Ax.resV, R39, Ax.look, sizeN, mkV, Nat.reduceEqDiff, reduceIte, axL]; rfl) ?_)
      | (with_reducible refine is_np ?_; first | refine n_postR rfl ?_ | refine n_postR (by simp only [Ax.result, Ax.resVs, Ax.resV, R39, Ax.look, sizeN, mkV, Nat.reduceEqDiff, reduceIte, axL]; rfl) ?_)
      | (first | with_reducible refine is_wd ?_ | with_reducible refine dk_wd ?_); refine go_dt _ (by simp only [Ax.runDK, Ax.runDT, Ax.runDops, Ax.run1d, Ax.recs, Ax.okPair, Ax.idsE, Ax.idsV, AOp.mems, AOp.isWrite, DRec.none, axD, Ax.runK, Ax.runOps, Ax.run1, Ax.wantA, Ax.step, Ax.ev, Ax.evs, Ax.evo, Ax.evp, Ax.look, Ax.putE, Ax.keepE, Ax.argsE, Ax.extr, Ax.binV, Ax.intBin, Ax.unV, Ax.addOff, Ax.sizeN, Ax.mkV, Ax.okV, reduceIte, Nat.reduceEqDiff, Nat.reduceAdd, Nat.reduceLeDiff, Nat.reduceLT, Nat.reduceSub, Nat.reduceMul, reduceCtorEq, Int.reduceEq, Int.reduceLT, Int.reduceLE, Int.reduceAdd, Int.reduceSub, Int.reduceNeg, Int.reduceToNat, undef, Value.cells, axL]; rfl) rfl ?_
      | (with_reducible first | refine end_reg (Ev.mono _ _) ?_ | refine end_dreg (Ev.mono _ _) ?_ | refine end_cond (Ev.mono _ _) ?_ | refine end_block (Ev.mono _ _) ?_ | refine end_loop (Ev.mono _ _) ?_))
      simp at h
      simpa [h, h2] using hq
    · repeat' (first
      | (with_reducible first | refine go_assoc ?_ (Ev.mono _ _) | refine go_skip ?_ | refine go_fin ?_ | refine go_ret ?_ | refine go_ret0 ?_ | refine go_exit ?_ | refine go_exit0 ?_ | refine go_block ?_ | refine n_then ?_ | refine x_then ?_ | refine r_then ?_ | refine n_block ?_ | refine r_block ?_ | refine x_block ?_ | refine x_block_ne ?_ (by decide))
      | (with_reducible refine is_k ?_; refine go_k _ (by simp only [Ax.runK, Ax.runOps, Ax.run1, Ax.wantA, Ax.step, Ax.ev, Ax.evs, Ax.evo, Ax.evp, Ax.look, Ax.putE, Ax.keepE, Ax.argsE, Ax.extr, Ax.binV, Ax.intBin, Ax.unV, Ax.addOff, Ax.sizeN, Ax.mkV, Ax.okV, reduceIte, Nat.reduceEqDiff, Nat.reduceAdd, Nat.reduceLeDiff, Nat.reduceLT, Nat.reduceSub, Nat.reduceMul, reduceCtorEq, Int.reduceEq, Int.reduceLT, Int.reduceLE, Int.reduceAdd, Int.reduceSub, Int.reduceNeg, Int.reduceToNat, undef, Value.cells, axL, wrapI (show I64 2 from by unfold I64; omega)]; rfl) rfl ?_)
      | (with_reducible refine cond_t ?_ ?_; · simp only [Ax.ev, Ax.look, reduceIte, Nat.reduceEqDiff])
      | (with_reducible refine cond_f ?_ ?_; · simp only [Ax.ev, Ax.look, reduceIte, Nat.reduceEqDiff])
      | (with_reducible refine is_rp ?_; first | refine r_postR rfl ?_ | refine r_postR (by simp only [Ax.result, Ax.resVs, Ax.resV, R39, Ax.look, sizeN, mkV, Nat.reduceEqDiff, reduceIte, axL, wrapI (show I64 2 from by unfold I64; omega)]; rfl) ?_)
      | (with_reducible refine is_np ?_; first | refine n_postR rfl ?_ | refine n_postR (by simp only [Ax.result, Ax.resVs, Ax.resV, R39, Ax.look, sizeN, mkV, Nat.reduceEqDiff, reduceIte, axL, wrapI (show I64 2 from by unfold I64; omega)]; rfl) ?_)
      | (first | with_reducible refine is_wd ?_ | with_reducible refine dk_wd ?_); refine go_dt _ (by simp only [Ax.runDK, Ax.runDT, Ax.runDops, Ax.run1d, Ax.recs, Ax.okPair, Ax.idsE, Ax.idsV, AOp.mems, AOp.isWrite, DRec.none, axD, Ax.runK, Ax.runOps, Ax.run1, Ax.wantA, Ax.step, Ax.ev, Ax.evs, Ax.evo, Ax.evp, Ax.look, Ax.putE, Ax.keepE, Ax.argsE, Ax.extr, Ax.binV, Ax.intBin, Ax.unV, Ax.addOff, Ax.sizeN, Ax.mkV, Ax.okV, reduceIte, Nat.reduceEqDiff, Nat.reduceAdd, Nat.reduceLeDiff, Nat.reduceLT, Nat.reduceSub, Nat.reduceMul, reduceCtorEq, Int.reduceEq, Int.reduceLT, Int.reduceLE, Int.reduceAdd, Int.reduceSub, Int.reduceNeg, Int.reduceToNat, undef, Value.cells, axL, wrapI (show I64 2 from by unfold I64; omega)]; rfl) rfl ?_
      | (with_reducible first | refine end_reg (Ev.mono _ _) ?_ | refine end_dreg (Ev.mono _ _) ?_ | refine end_cond (Ev.mono _ _) ?_ | refine end_block (Ev.mono _ _) ?_ | refine end_loop (Ev.mono _ _) ?_))
      refine unroll ?_
      repeat' (first
      | (with_reducible first | refine go_assoc ?_ (Ev.mono _ _) | refine go_skip ?_ | refine go_fin ?_ | refine go_ret ?_ | refine go_ret0 ?_ | refine go_exit ?_ | refine go_exit0 ?_ | refine go_block ?_ | refine n_then ?_ | refine x_then ?_ | refine r_then ?_ | refine n_block ?_ | refine r_block ?_ | refine x_block ?_ | refine x_block_ne ?_ (by decide))
      | (with_reducible refine is_k ?_; refine go_k _ (by simp only [Ax.runK, Ax.runOps, Ax.run1, Ax.wantA, Ax.step, Ax.ev, Ax.evs, Ax.evo, Ax.evp, Ax.look, Ax.putE, Ax.keepE, Ax.argsE, Ax.extr, Ax.binV, Ax.intBin, Ax.unV, Ax.addOff, Ax.sizeN, Ax.mkV, Ax.okV, reduceIte, Nat.reduceEqDiff, Nat.reduceAdd, Nat.reduceLeDiff, Nat.reduceLT, Nat.reduceSub, Nat.reduceMul, reduceCtorEq, Int.reduceEq, Int.reduceLT, Int.reduceLE, Int.reduceAdd, Int.reduceSub, Int.reduceNeg, Int.reduceToNat, undef, Value.cells, axL]; rfl) rfl ?_)
      | (with_reducible refine cond_t ?_ ?_; · simp only [Ax.ev, Ax.look, reduceIte, Nat.reduceEqDiff])
      | (with_reducible refine cond_f ?_ ?_; · simp only [Ax.ev, Ax.look, reduceIte, Nat.reduceEqDiff])
      | (with_reducible refine is_rp ?_; first | refine r_postR rfl ?_ | refine r_postR (by simp only [Ax.result, Ax.resVs, Ax.resV, R39, Ax.look, sizeN, mkV, Nat.reduceEqDiff, reduceIte, axL]; rfl) ?_)
      | (with_reducible refine is_np ?_; first | refine n_postR rfl ?_ | refine n_postR (by simp only [Ax.result, Ax.resVs, Ax.resV, R39, Ax.look, sizeN, mkV, Nat.reduceEqDiff, reduceIte, axL]; rfl) ?_)
      | (first | with_reducible refine is_wd ?_ | with_reducible refine dk_wd ?_); refine go_dt _ (by simp only [Ax.runDK, Ax.runDT, Ax.runDops, Ax.run1d, Ax.recs, Ax.okPair, Ax.idsE, Ax.idsV, AOp.mems, AOp.isWrite, DRec.none, axD, Ax.runK, Ax.runOps, Ax.run1, Ax.wantA, Ax.step, Ax.ev, Ax.evs, Ax.evo, Ax.evp, Ax.look, Ax.putE, Ax.keepE, Ax.argsE, Ax.extr, Ax.binV, Ax.intBin, Ax.unV, Ax.addOff, Ax.sizeN, Ax.mkV, Ax.okV, reduceIte, Nat.reduceEqDiff, Nat.reduceAdd, Nat.reduceLeDiff, Nat.reduceLT, Nat.reduceSub, Nat.reduceMul, reduceCtorEq, Int.reduceEq, Int.reduceLT, Int.reduceLE, Int.reduceAdd, Int.reduceSub, Int.reduceNeg, Int.reduceToNat, undef, Value.cells, axL]; rfl) rfl ?_
      | (with_reducible first | refine end_reg (Ev.mono _ _) ?_ | refine end_dreg (Ev.mono _ _) ?_ | refine end_cond (Ev.mono _ _) ?_ | refine end_block (Ev.mono _ _) ?_ | refine end_loop (Ev.mono _ _) ?_))
      simp at h h2
      simpa [h, h2] using hq

end Go.Proofs.Ytboclpaokecalaa

/- Law 06: how a heap lies in memory; 'ahead' and 'set'. -/
namespace Go.Proofs.Ytboclpaokecalaa
open Go.Ax
open Go.Ax.Enc (enc)

def itV (i : It) : Value := .agg #[.int .i64 i.when, .int .i64 i.seq, .int .i64 i.x]

theorem ahead_spec (X : Nat → List Value → Option Value) (a b : It) {S : AS} {Q : Value → AS → Prop} (hq : ∀ S', Keeps S S' [] → Q (.int .i64 (aheadI a b)) S') : Ev G X 30 [itV a, itV b] S Q := by
  refine Ev.fnR (rs := R30) (c := A30) rfl ?_
  unfold A30
  unfold itV
  have ne : S.nx + 1 ≠ S.nx := by omega
  have ne2 : S.nx ≠ S.nx + 1 := by omega
  repeat' (first
      | (with_reducible first | refine go_assoc ?_ (Ev.mono _ _) | refine go_skip ?_ | refine go_fin ?_ | refine go_ret ?_ | refine go_ret0 ?_ | refine go_exit ?_ | refine go_exit0 ?_ | refine go_block ?_ | refine n_then ?_ | refine x_then ?_ | refine r_then ?_ | refine n_block ?_ | refine r_block ?_ | refine x_block ?_ | refine x_block_ne ?_ (by decide))
      | (with_reducible refine is_k ?_; refine go_k _ (by simp only [Ax.runK, Ax.runOps, Ax.run1, Ax.wantA, Ax.step, Ax.ev, Ax.evs, Ax.evo, Ax.evp, Ax.look, Ax.putE, Ax.keepE, Ax.argsE, Ax.extr, Ax.binV, Ax.intBin, Ax.unV, Ax.addOff, Ax.sizeN, Ax.mkV, Ax.okV, reduceIte, Nat.reduceEqDiff, Nat.reduceAdd, Nat.reduceLeDiff, Nat.reduceLT, Nat.reduceSub, Nat.reduceMul, reduceCtorEq, Int.reduceEq, Int.reduceLT, Int.reduceLE, Int.reduceAdd, Int.reduceSub, Int.reduceNeg, Int.reduceToNat, undef, Value.cells, axL, new_nx]; rfl) rfl ?_)
      | (with_reducible refine cond_t ?_ ?_; · simp only [Ax.ev, Ax.look, reduceIte, Nat.reduceEqDiff])
      | (with_reducible refine cond_f ?_ ?_; · simp only [Ax.ev, Ax.look, reduceIte, Nat.reduceEqDiff])
      | (with_reducible refine is_rp ?_; first | refine r_postR rfl ?_ | refine r_postR (by simp only [Ax.result, Ax.resVs, Ax.resV, R30, Ax.look, sizeN, mkV, Nat.reduceEqDiff, reduceIte, axL, new_nx]; rfl) ?_)
      | (with_reducible refine is_np ?_; first | refine n_postR rfl ?_ | refine n_postR (by simp only [Ax.result, Ax.resVs, Ax.resV, R30, Ax.look, sizeN, mkV, Nat.reduceEqDiff, reduceIte, axL, new_nx]; rfl) ?_)
      | (first | with_reducible refine is_wd ?_ | with_reducible refine dk_wd ?_); refine go_dt _ (by simp only [Ax.runDK, Ax.runDT, Ax.runDops, Ax.run1d, Ax.recs, Ax.okPair, Ax.idsE, Ax.idsV, AOp.mems, AOp.isWrite, DRec.none, axD, Ax.runK, Ax.runOps, Ax.run1, Ax.wantA, Ax.step, Ax.ev, Ax.evs, Ax.evo, Ax.evp, Ax.look, Ax.putE, Ax.keepE, Ax.argsE, Ax.extr, Ax.binV, Ax.intBin, Ax.unV, Ax.addOff, Ax.sizeN, Ax.mkV, Ax.okV, reduceIte, Nat.reduceEqDiff, Nat.reduceAdd, Nat.reduceLeDiff, Nat.reduceLT, Nat.reduceSub, Nat.reduceMul, reduceCtorEq, Int.reduceEq, Int.reduceLT, Int.reduceLE, Int.reduceAdd, Int.reduceSub, Int.reduceNeg, Int.reduceToNat, undef, Value.cells, axL, new_nx]; rfl) rfl ?_
      | (with_reducible first | refine end_reg (Ev.mono _ _) ?_ | refine end_dreg (Ev.mono _ _) ?_ | refine end_cond (Ev.mono _ _) ?_ | refine end_block (Ev.mono _ _) ?_ | refine end_loop (Ev.mono _ _) ?_))
  obtain ⟨T, hT⟩ : ∃ T, T = (S.new (.cells false [.int .i64 a.when, .int .i64 a.seq, .int .i64 a.x])).new (.cells false [.int .i64 b.when, .int .i64 b.seq, .int .i64 b.x]) := ⟨_, rfl⟩
  rw [← hT]
  have h0 : T.h S.nx = some (.cells false [.int .i64 a.when, .int .i64 a.seq, .int .i64 a.x]) := by rw [hT]; simp [AS.new]
  have h1 : T.h (S.nx + 1) = some (.cells false [.int .i64 b.when, .int .i64 b.seq, .int .i64 b.x]) := by rw [hT]; simp [AS.new]
  have hk : Keeps S T [] := by rw [hT]; exact (Keeps.new _ _ _).trans (Keeps.new _ _ []) (by simp)
  refine go_d ?_
  repeat' (with_reducible first | refine go_assoc ?_ (Ev.mono _ _) | refine go_skip ?_ | refine go_block ?_ | refine end_dreg (Ev.mono _ _) ?_ | refine go_d ?_)
  refine go_dcallP 8 (v := .int .i64 (cmpI a.when b.when)) _ (by simp only [Ax.runDN, Ax.runDK, Ax.runDT, Ax.runDops, Ax.run1d, Ax.recs, Ax.okPair, Ax.idsE, Ax.idsV, AOp.mems, AOp.isWrite, DRec.none, axD, Ax.runK, Ax.runOps, Ax.run1, Ax.wantA, Ax.step, Ax.ev, Ax.evs, Ax.evo, Ax.evp, Ax.look, Ax.putE, Ax.keepE, Ax.argsE, Ax.extr, Ax.binV, Ax.intBin, Ax.unV, Ax.addOff, Ax.sizeN, Ax.mkV, Ax.okV, reduceIte, Nat.reduceEqDiff, Nat.reduceAdd, Nat.reduceLeDiff, Nat.reduceLT, Nat.reduceSub, Nat.reduceMul, reduceCtorEq, Int.reduceEq, Int.reduceLT, Int.reduceLE, Int.reduceAdd, Int.reduceSub, Int.reduceNeg, Int.reduceToNat, undef, Value.cells, axL, get1 h0, get1 h1]; rfl) rfl rfl (by simp only [Ax.wantA, Ax.look, reduceIte, Nat.reduceEqDiff, bq_t, bq_f, Bool.not_true, Bool.not_false]; try rfl) rfl (by simp only [Ax.runK, Ax.runOps, Ax.run1, Ax.wantA, Ax.step, Ax.ev, Ax.evs, Ax.evo, Ax.evp, Ax.look, Ax.putE, Ax.keepE, Ax.argsE, Ax.extr, Ax.binV, Ax.intBin, Ax.unV, Ax.addOff, Ax.sizeN, Ax.mkV, Ax.okV, reduceIte, Nat.reduceEqDiff, Nat.reduceAdd, Nat.reduceLeDiff, Nat.reduceLT, Nat.reduceSub, Nat.reduceMul, reduceCtorEq, Int.reduceEq, Int.reduceLT, Int.reduceLE, Int.reduceAdd, Int.reduceSub, Int.reduceNeg, Int.reduceToNat, undef, Value.cells, axL, get1 h0, get1 h1]; try rfl) ?_ ?_
  · exact fun T K h => compare_spec X _ _ h
  repeat' (with_reducible first | refine go_assoc ?_ (Ev.mono _ _) | refine go_skip ?_ | refine go_block ?_ | refine end_dreg (Ev.mono _ _) ?_ | refine go_d ?_)
  refine go_dcallP 0 (v := .int .i64 (cmpI a.seq b.seq)) _ (by simp only [Ax.runDN, Ax.runDK, Ax.runDT, Ax.runDops, Ax.run1d, Ax.recs, Ax.okPair, Ax.idsE, Ax.idsV, AOp.mems, AOp.isWrite, DRec.none, axD, Ax.runK, Ax.runOps, Ax.run1, Ax.wantA, Ax.step, Ax.ev, Ax.evs, Ax.evo, Ax.evp, Ax.look, Ax.putE, Ax.keepE, Ax.argsE, Ax.extr, Ax.binV, Ax.intBin, Ax.unV, Ax.addOff, Ax.sizeN, Ax.mkV, Ax.okV, reduceIte, Nat.reduceEqDiff, Nat.reduceAdd, Nat.reduceLeDiff, Nat.reduceLT, Nat.reduceSub, Nat.reduceMul, reduceCtorEq, Int.reduceEq, Int.reduceLT, Int.reduceLE, Int.reduceAdd, Int.reduceSub, Int.reduceNeg, Int.reduceToNat, undef, Value.cells, axL]; rfl) rfl rfl (by simp only [Ax.wantA, Ax.look, reduceIte, Nat.reduceEqDiff, bq_t, bq_f, Bool.not_true, Bool.not_false]; try rfl) rfl (by simp only [Ax.runK, Ax.runOps, Ax.run1, Ax.wantA, Ax.step, Ax.ev, Ax.evs, Ax.evo, Ax.evp, Ax.look, Ax.putE, Ax.keepE, Ax.argsE, Ax.extr, Ax.binV, Ax.intBin, Ax.unV, Ax.addOff, Ax.sizeN, Ax.mkV, Ax.okV, reduceIte, Nat.reduceEqDiff, Nat.reduceAdd, Nat.reduceLeDiff, Nat.reduceLT, Nat.reduceSub, Nat.reduceMul, reduceCtorEq, Int.reduceEq, Int.reduceLT, Int.reduceLE, Int.reduceAdd, Int.reduceSub, Int.reduceNeg, Int.reduceToNat, undef, Value.cells, axL]; try rfl) ?_ ?_
  · exact fun T K h => compare_spec X _ _ h
  repeat' (with_reducible first | refine go_assoc ?_ (Ev.mono _ _) | refine go_skip ?_ | refine go_block ?_ | refine end_dreg (Ev.mono _ _) ?_ | refine go_d ?_)
  refine go_dcall0 1 _ (by simp only [Ax.runDN, Ax.runDK, Ax.runDT, Ax.runDops, Ax.run1d, Ax.recs, Ax.okPair, Ax.idsE, Ax.idsV, AOp.mems, AOp.isWrite, DRec.none, axD, Ax.runK, Ax.runOps, Ax.run1, Ax.wantA, Ax.step, Ax.ev, Ax.evs, Ax.evo, Ax.evp, Ax.look, Ax.putE, Ax.keepE, Ax.argsE, Ax.extr, Ax.binV, Ax.intBin, Ax.unV, Ax.addOff, Ax.sizeN, Ax.mkV, Ax.okV, reduceIte, Nat.reduceEqDiff, Nat.reduceAdd, Nat.reduceLeDiff, Nat.reduceLT, Nat.reduceSub, Nat.reduceMul, reduceCtorEq, Int.reduceEq, Int.reduceLT, Int.reduceLE, Int.reduceAdd, Int.reduceSub, Int.reduceNeg, Int.reduceToNat, undef, Value.cells, axL]; rfl) rfl rfl (by simp only [Ax.wantA, Ax.look, reduceIte, Nat.reduceEqDiff, bq_t, bq_f, Bool.not_true, Bool.not_false]; try rfl) rfl (by simp only [Ax.runK, Ax.runOps, Ax.run1, Ax.wantA, Ax.step, Ax.ev, Ax.evs, Ax.evo, Ax.evp, Ax.look, Ax.putE, Ax.keepE, Ax.argsE, Ax.extr, Ax.binV, Ax.intBin, Ax.unV, Ax.addOff, Ax.sizeN, Ax.mkV, Ax.okV, reduceIte, Nat.reduceEqDiff, Nat.reduceAdd, Nat.reduceLeDiff, Nat.reduceLT, Nat.reduceSub, Nat.reduceMul, reduceCtorEq, Int.reduceEq, Int.reduceLT, Int.reduceLE, Int.reduceAdd, Int.reduceSub, Int.reduceNeg, Int.reduceToNat, undef, Value.cells, axL]; try rfl) (by simp only [hidden, AS.roAt, AObj.ro, List.filter_cons, List.filter_nil, Nat.sub_self, List.range'_zero, Ax.runDK, Ax.runDT, Ax.runDops, Ax.run1d, Ax.recs, Ax.okPair, Ax.idsE, Ax.idsV, AOp.mems, AOp.isWrite, DRec.none, axD, Ax.runK, Ax.runOps, Ax.run1, Ax.wantA, Ax.step, Ax.ev, Ax.evs, Ax.evo, Ax.evp, Ax.look, Ax.putE, Ax.keepE, Ax.argsE, Ax.extr, Ax.binV, Ax.intBin, Ax.unV, Ax.addOff, Ax.sizeN, Ax.mkV, Ax.okV, reduceIte, Nat.reduceEqDiff, Nat.reduceAdd, Nat.reduceLeDiff, Nat.reduceLT, Nat.reduceSub, Nat.reduceMul, reduceCtorEq, Int.reduceEq, Int.reduceLT, Int.reduceLE, Int.reduceAdd, Int.reduceSub, Int.reduceNeg, Int.reduceToNat, undef, Value.cells, axL]; try rfl) ?_
  refine or_spec X (cmpI a.when b.when) (cmpI a.seq b.seq) 2 (i := T.nx) ?_ (by simp [AS.new])
  repeat' (first
      | (with_reducible first | refine go_assoc ?_ (Ev.mono _ _) | refine go_skip ?_ | refine go_fin ?_ | refine go_ret ?_ | refine go_ret0 ?_ | refine go_exit ?_ | refine go_exit0 ?_ | refine go_block ?_ | refine n_then ?_ | refine x_then ?_ | refine r_then ?_ | refine n_block ?_ | refine r_block ?_ | refine x_block ?_ | refine x_block_ne ?_ (by decide))
      | (with_reducible refine is_k ?_; refine go_k _ (by simp only [Ax.runK, Ax.runOps, Ax.run1, Ax.wantA, Ax.step, Ax.ev, Ax.evs, Ax.evo, Ax.evp, Ax.look, Ax.putE, Ax.keepE, Ax.argsE, Ax.extr, Ax.binV, Ax.intBin, Ax.unV, Ax.addOff, Ax.sizeN, Ax.mkV, Ax.okV, reduceIte, Nat.reduceEqDiff, Nat.reduceAdd, Nat.reduceLeDiff, Nat.reduceLT, Nat.reduceSub, Nat.reduceMul, reduceCtorEq, Int.reduceEq, Int.reduceLT, Int.reduceLE, Int.reduceAdd, Int.reduceSub, Int.reduceNeg, Int.reduceToNat, undef, Value.cells, axL]; rfl) rfl ?_)
      | (with_reducible refine cond_t ?_ ?_; · simp only [Ax.ev, Ax.look, reduceIte, Nat.reduceEqDiff])
      | (with_reducible refine cond_f ?_ ?_; · simp only [Ax.ev, Ax.look, reduceIte, Nat.reduceEqDiff])
      | (with_reducible refine is_rp ?_; first | refine r_postR rfl ?_ | refine r_postR (by simp only [Ax.result, Ax.resVs, Ax.resV, R30, Ax.look, sizeN, mkV, Nat.reduceEqDiff, reduceIte, axL]; rfl) ?_)
      | (with_reducible refine is_np ?_; first | refine n_postR rfl ?_ | refine n_postR (by simp only [Ax.result, Ax.resVs, Ax.resV, R30, Ax.look, sizeN, mkV, Nat.reduceEqDiff, reduceIte, axL]; rfl) ?_)
      | (first | with_reducible refine is_wd ?_ | with_reducible refine dk_wd ?_); refine go_dt _ (by simp only [Ax.runDK, Ax.runDT, Ax.runDops, Ax.run1d, Ax.recs, Ax.okPair, Ax.idsE, Ax.idsV, AOp.mems, AOp.isWrite, DRec.none, axD, Ax.runK, Ax.runOps, Ax.run1, Ax.wantA, Ax.step, Ax.ev, Ax.evs, Ax.evo, Ax.evp, Ax.look, Ax.putE, Ax.keepE, Ax.argsE, Ax.extr, Ax.binV, Ax.intBin, Ax.unV, Ax.addOff, Ax.sizeN, Ax.mkV, Ax.okV, reduceIte, Nat.reduceEqDiff, Nat.reduceAdd, Nat.reduceLeDiff, Nat.reduceLT, Nat.reduceSub, Nat.reduceMul, reduceCtorEq, Int.reduceEq, Int.reduceLT, Int.reduceLE, Int.reduceAdd, Int.reduceSub, Int.reduceNeg, Int.reduceToNat, undef, Value.cells, axL]; rfl) rfl ?_
      | (with_reducible first | refine end_reg (Ev.mono _ _) ?_ | refine end_dreg (Ev.mono _ _) ?_ | refine end_cond (Ev.mono _ _) ?_ | refine end_block (Ev.mono _ _) ?_ | refine end_loop (Ev.mono _ _) ?_))
  refine hq _ (hk.trans (Keeps.new _ _ []) (by simp))

/-- A heap's index: a map, or none yet. -/
def AtA (v : Value) (m : List (Int × Int)) : Asn := fun h => (v = .map none ∧ m = []) ∨ ∃ id, v = .map (some id) ∧ MapI (fun n => .int .i64 n) id m h

theorem set_spec (X : Nat → List Value → Option Value) {R : Nat → Option (List Value)} {F : List Asn} {S : AS} {h id : Nat} {lv sv : Value} {l : List It} {m : List (Int × Int)} (H : St R (pts h [lv, .map (some id), sv] :: SlT lv l :: MapI (fun n => .int .i64 n) id m :: F) S) {i : Nat} (hi : i < l.length) (x : It) {Q : Value → AS → Prop}
    (hq : ∀ S', St R (pts h [lv, .map (some id), sv] :: SlT lv (l.set i x) :: MapI (fun n => .int .i64 n) id (ups m x.x i) :: F) S' → Q (.tuple #[]) S') : Ev G X 31 [.pointer (some ⟨h, 0, none⟩), .int .i64 i, itV x] S Q := by
  refine Ev.fnR (rs := R31) (c := A31) rfl ?_
  unfold A31
  unfold itV
  repeat' (first
      | (with_reducible first | refine go_assoc ?_ (Ev.mono _ _) | refine go_skip ?_ | refine go_fin ?_ | refine go_ret ?_ | refine go_ret0 ?_ | refine go_exit ?_ | refine go_exit0 ?_ | refine go_block ?_ | refine n_then ?_ | refine x_then ?_ | refine r_then ?_ | refine n_block ?_ | refine r_block ?_ | refine x_block ?_ | refine x_block_ne ?_ (by decide))
      | (with_reducible refine is_k ?_; refine go_k _ (by simp only [Ax.runK, Ax.runOps, Ax.run1, Ax.wantA, Ax.step, Ax.ev, Ax.evs, Ax.evo, Ax.evp, Ax.look, Ax.putE, Ax.keepE, Ax.argsE, Ax.extr, Ax.binV, Ax.intBin, Ax.unV, Ax.addOff, Ax.sizeN, Ax.mkV, Ax.okV, reduceIte, Nat.reduceEqDiff, Nat.reduceAdd, Nat.reduceLeDiff, Nat.reduceLT, Nat.reduceSub, Nat.reduceMul, reduceCtorEq, Int.reduceEq, Int.reduceLT, Int.reduceLE, Int.reduceAdd, Int.reduceSub, Int.reduceNeg, Int.reduceToNat, undef, Value.cells, axL]; rfl) rfl ?_)
      | (with_reducible refine cond_t ?_ ?_; · simp only [Ax.ev, Ax.look, reduceIte, Nat.reduceEqDiff])
      | (with_reducible refine cond_f ?_ ?_; · simp only [Ax.ev, Ax.look, reduceIte, Nat.reduceEqDiff])
      | (with_reducible refine is_rp ?_; first | refine r_postR rfl ?_ | refine r_postR (by simp only [Ax.result, Ax.resVs, Ax.resV, R31, Ax.look, sizeN, mkV, Nat.reduceEqDiff, reduceIte, axL]; rfl) ?_)
      | (with_reducible refine is_np ?_; first | refine n_postR rfl ?_ | refine n_postR (by simp only [Ax.result, Ax.resVs, Ax.resV, R31, Ax.look, sizeN, mkV, Nat.reduceEqDiff, reduceIte, axL]; rfl) ?_)
      | (first | with_reducible refine is_wd ?_ | with_reducible refine dk_wd ?_); refine go_dt _ (by simp only [Ax.runDK, Ax.runDT, Ax.runDops, Ax.run1d, Ax.recs, Ax.okPair, Ax.idsE, Ax.idsV, AOp.mems, AOp.isWrite, DRec.none, axD, Ax.runK, Ax.runOps, Ax.run1, Ax.wantA, Ax.step, Ax.ev, Ax.evs, Ax.evo, Ax.evp, Ax.look, Ax.putE, Ax.keepE, Ax.argsE, Ax.extr, Ax.binV, Ax.intBin, Ax.unV, Ax.addOff, Ax.sizeN, Ax.mkV, Ax.okV, reduceIte, Nat.reduceEqDiff, Nat.reduceAdd, Nat.reduceLeDiff, Nat.reduceLT, Nat.reduceSub, Nat.reduceMul, reduceCtorEq, Int.reduceEq, Int.reduceLT, Int.reduceLE, Int.reduceAdd, Int.reduceSub, Int.reduceNeg, Int.reduceToNat, undef, Value.cells, axL]; rfl) rfl ?_
      | (with_reducible first | refine end_reg (Ev.mono _ _) ?_ | refine end_dreg (Ev.mono _ _) ?_ | refine end_cond (Ev.mono _ _) ?_ | refine end_block (Ev.mono _ _) ?_ | refine end_loop (Ev.mono _ _) ?_))
  have H1 := H.newc [.int .i64 x.when, .int .i64 x.seq, .int .i64 x.x]
  generalize S.new (.cells false [.int .i64 x.when, .int .i64 x.seq, .int .i64 x.x]) = T at H1
  have hx := H1.pget
  have hb := (H1.pick 4 [1] rfl).pget
  obtain ⟨b, a, e1, e2, e3, e4, e5, e6, e7⟩ := SlT.put (H1.pick 4 [2, 0, 1, 3] rfl) hi .i64
  obtain ⟨T1, f1, H2, f3, f4⟩ := e7 _ x rfl
  simp only [enc_it] at f1
  repeat' (first
      | (with_reducible first | refine go_assoc ?_ (Ev.mono _ _) | refine go_skip ?_ | refine go_fin ?_ | refine go_ret ?_ | refine go_ret0 ?_ | refine go_exit ?_ | refine go_exit0 ?_ | refine go_block ?_ | refine n_then ?_ | refine x_then ?_ | refine r_then ?_ | refine n_block ?_ | refine r_block ?_ | refine x_block ?_ | refine x_block_ne ?_ (by decide))
      | (with_reducible refine is_k ?_; refine go_k _ (by simp only [Ax.runK, Ax.runOps, Ax.run1, Ax.wantA, Ax.step, Ax.ev, Ax.evs, Ax.evo, Ax.evp, Ax.look, Ax.putE, Ax.keepE, Ax.argsE, Ax.extr, Ax.binV, Ax.intBin, Ax.unV, Ax.addOff, Ax.sizeN, Ax.mkV, Ax.okV, reduceIte, Nat.reduceEqDiff, Nat.reduceAdd, Nat.reduceLeDiff, Nat.reduceLT, Nat.reduceSub, Nat.reduceMul, reduceCtorEq, Int.reduceEq, Int.reduceLT, Int.reduceLE, Int.reduceAdd, Int.reduceSub, Int.reduceNeg, Int.reduceToNat, undef, Value.cells, axL, get1 hb, getAll (n := 3) hx rfl, e1, f1]; rfl) rfl ?_)
      | (with_reducible refine cond_t ?_ ?_; · simp only [Ax.ev, Ax.look, reduceIte, Nat.reduceEqDiff])
      | (with_reducible refine cond_f ?_ ?_; · simp only [Ax.ev, Ax.look, reduceIte, Nat.reduceEqDiff])
      | (with_reducible refine is_rp ?_; first | refine r_postR rfl ?_ | refine r_postR (by simp only [Ax.result, Ax.resVs, Ax.resV, R31, Ax.look, sizeN, mkV, Nat.reduceEqDiff, reduceIte, axL, get1 hb, getAll (n := 3) hx rfl, e1, f1]; rfl) ?_)
      | (with_reducible refine is_np ?_; first | refine n_postR rfl ?_ | refine n_postR (by simp only [Ax.result, Ax.resVs, Ax.resV, R31, Ax.look, sizeN, mkV, Nat.reduceEqDiff, reduceIte, axL, get1 hb, getAll (n := 3) hx rfl, e1, f1]; rfl) ?_)
      | (first | with_reducible refine is_wd ?_ | with_reducible refine dk_wd ?_); refine go_dt _ (by simp only [Ax.runDK, Ax.runDT, Ax.runDops, Ax.run1d, Ax.recs, Ax.okPair, Ax.idsE, Ax.idsV, AOp.mems, AOp.isWrite, DRec.none, axD, Ax.runK, Ax.runOps, Ax.run1, Ax.wantA, Ax.step, Ax.ev, Ax.evs, Ax.evo, Ax.evp, Ax.look, Ax.putE, Ax.keepE, Ax.argsE, Ax.extr, Ax.binV, Ax.intBin, Ax.unV, Ax.addOff, Ax.sizeN, Ax.mkV, Ax.okV, reduceIte, Nat.reduceEqDiff, Nat.reduceAdd, Nat.reduceLeDiff, Nat.reduceLT, Nat.reduceSub, Nat.reduceMul, reduceCtorEq, Int.reduceEq, Int.reduceLT, Int.reduceLE, Int.reduceAdd, Int.reduceSub, Int.reduceNeg, Int.reduceToNat, undef, Value.cells, axL, get1 hb, getAll (n := 3) hx rfl, e1, f1]; rfl) rfl ?_
      | (with_reducible first | refine end_reg (Ev.mono _ _) ?_ | refine end_dreg (Ev.mono _ _) ?_ | refine end_cond (Ev.mono _ _) ?_ | refine end_block (Ev.mono _ _) ?_ | refine end_loop (Ev.mono _ _) ?_))
  obtain ⟨T2, g1, H3, g3, g4⟩ := MapI.upd (H2.pick 4 [3, 0, 1, 2] rfl) x.x i
  have hx1 := (H2.pick 4 [1] rfl).pget
  have hb1 := (H2.pick 4 [2] rfl).pget
  repeat' (first
      | (with_reducible first | refine go_assoc ?_ (Ev.mono _ _) | refine go_skip ?_ | refine go_fin ?_ | refine go_ret ?_ | refine go_ret0 ?_ | refine go_exit ?_ | refine go_exit0 ?_ | refine go_block ?_ | refine n_then ?_ | refine x_then ?_ | refine r_then ?_ | refine n_block ?_ | refine r_block ?_ | refine x_block ?_ | refine x_block_ne ?_ (by decide))
      | (with_reducible refine is_k ?_; refine go_k _ (by simp only [Ax.runK, Ax.runOps, Ax.run1, Ax.wantA, Ax.step, Ax.ev, Ax.evs, Ax.evo, Ax.evp, Ax.look, Ax.putE, Ax.keepE, Ax.argsE, Ax.extr, Ax.binV, Ax.intBin, Ax.unV, Ax.addOff, Ax.sizeN, Ax.mkV, Ax.okV, reduceIte, Nat.reduceEqDiff, Nat.reduceAdd, Nat.reduceLeDiff, Nat.reduceLT, Nat.reduceSub, Nat.reduceMul, reduceCtorEq, Int.reduceEq, Int.reduceLT, Int.reduceLE, Int.reduceAdd, Int.reduceSub, Int.reduceNeg, Int.reduceToNat, undef, Value.cells, axL, get1 hb1, get1 hx1, g1]; rfl) rfl ?_)
      | (with_reducible refine cond_t ?_ ?_; · simp only [Ax.ev, Ax.look, reduceIte, Nat.reduceEqDiff])
      | (with_reducible refine cond_f ?_ ?_; · simp only [Ax.ev, Ax.look, reduceIte, Nat.reduceEqDiff])
      | (with_reducible refine is_rp ?_; first | refine r_postR rfl ?_ | refine r_postR (by simp only [Ax.result, Ax.resVs, Ax.resV, R31, Ax.look, sizeN, mkV, Nat.reduceEqDiff, reduceIte, axL, get1 hb1, get1 hx1, g1]; rfl) ?_)
      | (with_reducible refine is_np ?_; first | refine n_postR rfl ?_ | refine n_postR (by simp only [Ax.result, Ax.resVs, Ax.resV, R31, Ax.look, sizeN, mkV, Nat.reduceEqDiff, reduceIte, axL, get1 hb1, get1 hx1, g1]; rfl) ?_)
      | (first | with_reducible refine is_wd ?_ | with_reducible refine dk_wd ?_); refine go_dt _ (by simp only [Ax.runDK, Ax.runDT, Ax.runDops, Ax.run1d, Ax.recs, Ax.okPair, Ax.idsE, Ax.idsV, AOp.mems, AOp.isWrite, DRec.none, axD, Ax.runK, Ax.runOps, Ax.run1, Ax.wantA, Ax.step, Ax.ev, Ax.evs, Ax.evo, Ax.evp, Ax.look, Ax.putE, Ax.keepE, Ax.argsE, Ax.extr, Ax.binV, Ax.intBin, Ax.unV, Ax.addOff, Ax.sizeN, Ax.mkV, Ax.okV, reduceIte, Nat.reduceEqDiff, Nat.reduceAdd, Nat.reduceLeDiff, Nat.reduceLT, Nat.reduceSub, Nat.reduceMul, reduceCtorEq, Int.reduceEq, Int.reduceLT, Int.reduceLE, Int.reduceAdd, Int.reduceSub, Int.reduceNeg, Int.reduceToNat, undef, Value.cells, axL, get1 hb1, get1 hx1, g1]; rfl) rfl ?_
      | (with_reducible first | refine end_reg (Ev.mono _ _) ?_ | refine end_dreg (Ev.mono _ _) ?_ | refine end_cond (Ev.mono _ _) ?_ | refine end_block (Ev.mono _ _) ?_ | refine end_loop (Ev.mono _ _) ?_))
  exact hq _ (H3.pick 4 [3, 1, 0] rfl)
end Go.Proofs.Ytboclpaokecalaa

/- Law 06: heaps, plainly: order, places, swaps. -/
namespace Go.Proofs.Ytboclpaokecalaa
open Go.Ax
open Go.Ax.Enc (enc)

def ltI (a b : It) : Prop := a.when < b.when ∨ a.when = b.when ∧ a.seq < b.seq

theorem ahead_lt (a b : It) : aheadI a b < 0 ↔ ltI a b := by
  unfold aheadI cmpI ltI
  by_cases h1 : a.when < b.when
  · simp [h1]
  · by_cases h2 : b.when < a.when
    · simp [h1, h2]; omega
    · by_cases h3 : a.seq < b.seq
      · simp [h1, h2, h3]; omega
      · by_cases h4 : b.seq < a.seq
        · simp [h1, h2, h3, h4]
        · simp [h1, h2, h3, h4]

def upd (f : Nat → It) (i : Nat) (x : It) : Nat → It := fun j => if j = i then x else f j

def ordA (f : Nat → It) (n i : Nat) : Prop := ∀ j, j < n → 0 < j → j ≠ i → (j - 1) / 2 ≠ i → ¬ ltI (f j) (f ((j - 1) / 2))
def ordB (f : Nat → It) (n i : Nat) : Prop := ∀ j, j < n → 0 < j → (j - 1) / 2 = i → 0 < i → ¬ ltI (f j) (f ((i - 1) / 2))
def ordC (f : Nat → It) (n i : Nat) : Prop := ∀ j, j < n → 0 < j → (j - 1) / 2 = i → ¬ ltI (f j) (f i)
def ordP (f : Nat → It) (i : Nat) : Prop := 0 < i → ¬ ltI (f i) (f ((i - 1) / 2))
/-- A heap. -/
def Ord (f : Nat → It) (n : Nat) : Prop := ∀ j, j < n → 0 < j → ¬ ltI (f j) (f ((j - 1) / 2))

theorem ord_of {f : Nat → It} {n i : Nat} (ha : ordA f n i) (hc : ordC f n i) (hp : ordP f i) : Ord f n := by
  intro j hj h0
  by_cases h1 : j = i
  · subst h1; exact hp h0
  · by_cases h2 : (j - 1) / 2 = i
    · rw [h2]; exact hc j hj h0 h2
    · exact ha j hj h0 h1 h2

theorem Ord.a {f : Nat → It} {n : Nat} (h : Ord f n) (i : Nat) : ordA f n i := fun j hj h0 _ _ => h j hj h0
theorem Ord.b {f : Nat → It} {n : Nat} (h : Ord f n) (i : Nat) (hi : i < n) : ordB f n i := fun j hj h0 hp hi0 => by
  have h1 := h j hj h0
  have h2 := h i hi hi0
  rw [hp] at h1
  unfold ltI at *; omega

theorem up_step {f : Nat → It} {n i : Nat} (hi : i < n) (h0 : 0 < i) (ha : ordA f n i) (hb : ordB f n i) (hlt : ltI (f i) (f ((i - 1) / 2))) :
    ordA (upd (upd f i (f ((i - 1) / 2))) ((i - 1) / 2) (f i)) n ((i - 1) / 2) ∧ ordB (upd (upd f i (f ((i - 1) / 2))) ((i - 1) / 2) (f i)) n ((i - 1) / 2) ∧ ordC (upd (upd f i (f ((i - 1) / 2))) ((i - 1) / 2) (f i)) n ((i - 1) / 2) := by
  have hp : (i - 1) / 2 ≠ i := by omega
  have hAi : ∀ j, j < n → 0 < j → j ≠ i → (j - 1) / 2 = (i - 1) / 2 → ¬ ltI (f j) (f ((i - 1) / 2)) := fun j hj h0 hne he => by
    have := ha j hj h0 hne (by omega)
    rwa [he] at this
  refine ⟨fun j hj hj0 hne hpne => ?_, fun j hj hj0 hpe hp0 => ?_, fun j hj hj0 hpe => ?_⟩
  · have hji : j ≠ i := fun e => hpne (by rw [e])
    by_cases h2 : (j - 1) / 2 = i
    · simp only [upd, if_neg hne, if_neg hji, h2, if_neg (Ne.symm hp), if_true]
      exact hb j hj hj0 h2 h0
    · simp only [upd, if_neg hne, if_neg hji, if_neg hpne, if_neg h2]
      exact ha j hj hj0 hji h2
  · have hpp : ((i - 1) / 2 - 1) / 2 ≠ (i - 1) / 2 := by omega
    have hpi : ((i - 1) / 2 - 1) / 2 ≠ i := by omega
    have hjp : j ≠ (i - 1) / 2 := by omega
    have h3 := ha ((i - 1) / 2) (by omega) hp0 hp hpi
    by_cases h1 : j = i
    · subst h1
      simp only [upd, if_neg hjp, if_true, if_neg hpp, if_neg hpi]
      exact h3
    · simp only [upd, if_neg hjp, if_neg h1, if_neg hpp, if_neg hpi]
      have h4 := hAi j hj hj0 h1 hpe
      unfold ltI at *; omega
  · have hjp : j ≠ (i - 1) / 2 := by omega
    by_cases h1 : j = i
    · subst h1
      simp only [upd, if_neg hjp, if_true]
      unfold ltI at *; omega
    · simp only [upd, if_neg hjp, if_neg h1, if_true]
      have h4 := hAi j hj hj0 h1 hpe
      unfold ltI at *; omega

theorem down_step {f : Nat → It} {n i k : Nat} (hk : k < n) (hk0 : 0 < k) (hki : (k - 1) / 2 = i) (ha : ordA f n i) (hb : ordB f n i) (hmin : ∀ j, j < n → 0 < j → (j - 1) / 2 = i → ¬ ltI (f j) (f k)) (hge : ¬ ltI (f i) (f k)) :
    ordA (upd (upd f i (f k)) k (f i)) n k ∧ ordB (upd (upd f i (f k)) k (f i)) n k ∧ ordP (upd (upd f i (f k)) k (f i)) k := by
  have hne : k ≠ i := by omega
  refine ⟨fun j hj hj0 hjk hpk => ?_, fun j hj hj0 hpe hp0 => ?_, fun hp0 => ?_⟩
  · by_cases h1 : j = i
    · subst h1
      have h2 : (j - 1) / 2 ≠ j := by omega
      simp only [upd, if_neg hjk, if_true, if_neg hpk, if_neg h2]
      exact hb k hk hk0 hki hj0
    · by_cases h2 : (j - 1) / 2 = i
      · simp only [upd, if_neg hjk, if_neg h1, if_neg hpk, h2, if_true, if_neg (Ne.symm hne)]
        exact hmin j hj hj0 h2
      · simp only [upd, if_neg hjk, if_neg h1, if_neg hpk, if_neg h2]
        exact ha j hj hj0 h1 h2
  · have h1 : j ≠ k := by omega
    have h2 : j ≠ i := by omega
    have h3 : (k - 1) / 2 ≠ k := by omega
    simp only [upd, if_neg h1, if_neg h2, hki, if_true, if_neg (Ne.symm hne)]
    have := ha j hj hj0 h2 (by omega)
    rwa [hpe] at this
  · have h3 : (k - 1) / 2 ≠ k := by omega
    simp only [upd, if_true, hki, if_neg (Ne.symm hne)]
    exact hge

/-- An element, by its place. -/
def ix (l : List It) (j : Nat) : It := (l[j]?).getD ⟨0, 0, 0⟩

theorem ix_get {l : List It} {j : Nat} (h : j < l.length) : ix l j = l[j] := by simp [ix, h]
theorem ix_set {l : List It} {i : Nat} (hi : i < l.length) (x : It) : ix (l.set i x) = upd (ix l) i x := by
  funext j
  simp only [ix, upd, List.getElem?_set]
  by_cases h : i = j
  · subst h; simp [hi]
  · simp [h, Ne.symm h]

/-- Where things are: all but one place. -/
structure AtX (m : List (Int × Int)) (v : List It) (i : Nat) : Prop where
  at' : ∀ j, j < v.length → j ≠ i → m.lookup (ix v j).x = some (j : Int)
  dom : ∀ y k, m.lookup y = some k → y ∈ v.map (·.x)
  nd : (v.map (·.x)).Nodup

structure AtOk (m : List (Int × Int)) (v : List It) : Prop where
  at' : ∀ j, j < v.length → m.lookup (ix v j).x = some (j : Int)
  dom : ∀ y k, m.lookup y = some k → y ∈ v.map (·.x)
  nd : (v.map (·.x)).Nodup

theorem AtOk.x {m : List (Int × Int)} {v : List It} (h : AtOk m v) (i : Nat) : AtX m v i := ⟨fun j hj _ => h.at' j hj, h.dom, h.nd⟩

theorem nd_ix {v : List It} (h : (v.map (·.x)).Nodup) {i j : Nat} (hi : i < v.length) (hj : j < v.length) (e : (ix v i).x = (ix v j).x) : i = j := by
  rw [ix_get hi, ix_get hj] at e
  have hp := List.pairwise_iff_getElem.1 h
  rcases Nat.lt_trichotomy i j with h1 | h1 | h1
  · have := hp i j (by simpa using hi) (by simpa using hj) h1
    simp only [List.getElem_map] at this
    exact absurd e this
  · exact h1
  · have := hp j i (by simpa using hj) (by simpa using hi) h1
    simp only [List.getElem_map] at this
    exact absurd e.symm this

theorem mem_ix {v : List It} {i : Nat} (hi : i < v.length) : (ix v i).x ∈ v.map (·.x) := by
  rw [ix_get hi]; exact List.mem_map_of_mem (List.getElem_mem hi)

theorem swap_perm {v : List It} {i j : Nat} (hi : i < v.length) (hj : j < v.length) : ((v.set i (ix v j)).set j (ix v i)).Perm v := by
  rw [ix_get hi, ix_get hj]
  exact List.set_set_perm hi hj

/-- A swap, told to the index. -/
theorem AtX.swap {m : List (Int × Int)} {v : List It} {i j : Nat} (h : AtX m v i) (hi : i < v.length) (hj : j < v.length) (hij : i ≠ j) : AtX (ups m (ix v j).x i) ((v.set i (ix v j)).set j (ix v i)) j := by
  have hp := (swap_perm hi hj).map (·.x)
  have hlen : ((v.set i (ix v j)).set j (ix v i)).length = v.length := by simp
  have hix : ix ((v.set i (ix v j)).set j (ix v i)) = upd (upd (ix v) i (ix v j)) j (ix v i) := by rw [ix_set (by simpa using hj), ix_set hi]
  refine ⟨fun k hk hkj => ?_, fun y k hy => ?_, hp.symm.nodup h.nd⟩
  · rw [hlen] at hk
    rw [lookup_ups, hix]
    simp only [upd, if_neg hkj]
    by_cases h1 : k = i
    · subst h1; simp
    · rw [if_neg h1, if_neg (fun e => hkj (nd_ix h.nd hk hj e)), h.at' k hk h1]
  · rw [hp.mem_iff]
    rw [lookup_ups] at hy
    split at hy
    · rename_i e; subst e; exact mem_ix hj
    · exact h.dom y k hy

theorem AtX.done {m : List (Int × Int)} {v : List It} {i : Nat} (h : AtX m v i) (hi : i < v.length) : AtOk (ups m (ix v i).x i) v := by
  refine ⟨fun k hk => ?_, fun y k hy => ?_, h.nd⟩
  · rw [lookup_ups]
    by_cases h1 : k = i
    · subst h1; simp
    · rw [if_neg (fun e => h1 (nd_ix h.nd hk hi e)), h.at' k hk h1]
  · rw [lookup_ups] at hy
    split at hy
    · rename_i e; subst e; exact mem_ix hi
    · exact h.dom y k hy

end Go.Proofs.Ytboclpaokecalaa

/- Law 06: 'up'. -/
namespace Go.Proofs.Ytboclpaokecalaa
open Go.Ax
open Go.Ax.Enc (enc)

/-- A heap's parts in memory. -/
def hp (h id : Nat) (lv sv : Value) (l : List It) (m : List (Int × Int)) (F : List Asn) : List Asn := pts h [lv, .map (some id), sv] :: SlT lv l :: MapI (fun n => .int .i64 n) id m :: F

/-- How it is while one thing looks for its place. -/
structure UpI (l0 : List It) (x : It) (i0 : Nat) (i : Nat) (l : List It) (m : List (Int × Int)) : Prop where
  lt : i < l.length
  perm : (l.set i x).Perm l0
  a : ordA (ix (l.set i x)) l.length i
  b : ordB (ix (l.set i x)) l.length i
  c : i ≠ i0 ∨ ordC (ix l0) l0.length i0 → ordC (ix (l.set i x)) l.length i
  at' : AtX m (l.set i x) i

structure UpR (l : List It) (i : Nat) (l' : List It) (m' : List (Int × Int)) (i' : Nat) : Prop where
  lt : i' < l'.length
  perm : l'.Perm l
  same : ix l' i' = ix l i
  a : ordA (ix l') l'.length i'
  b : ordB (ix l') l'.length i'
  p : ordP (ix l') i'
  c : i' ≠ i ∨ ordC (ix l) l.length i → ordC (ix l') l'.length i'
  at' : AtOk m' l'

theorem UpI.step {l0 : List It} {x : It} {i0 i : Nat} {l : List It} {m : List (Int × Int)} (I : UpI l0 x i0 i l m) (h0 : 0 < i) (hp : (i - 1) / 2 < l.length) (hlt : ltI x l[(i - 1) / 2]) : UpI l0 x i0 ((i - 1) / 2) (l.set i l[(i - 1) / 2]) (ups m l[(i - 1) / 2].x i) := by
  have hne : i ≠ (i - 1) / 2 := by omega
  have hi := I.lt
  have e1 : ix (l.set i x) i = x := by rw [ix_set hi]; simp [upd]
  have e2 : ix (l.set i x) ((i - 1) / 2) = l[(i - 1) / 2] := by rw [ix_set hi]; simp only [upd, if_neg (Ne.symm hne)]; exact ix_get hp
  have e3 : (l.set i l[(i - 1) / 2]).set ((i - 1) / 2) x = ((l.set i x).set i (ix (l.set i x) ((i - 1) / 2))).set ((i - 1) / 2) (ix (l.set i x) i) := by rw [e1, e2, List.set_set]
  have hs : (i - 1) / 2 < (l.set i x).length := by simpa using hp
  have hs' : i < (l.set i x).length := by simpa using hi
  have e4 : ix ((l.set i l[(i - 1) / 2]).set ((i - 1) / 2) x) = upd (upd (ix (l.set i x)) i (ix (l.set i x) ((i - 1) / 2))) ((i - 1) / 2) (ix (l.set i x) i) := by
    rw [e3, ix_set (by simpa using hp), ix_set hs']
  obtain ⟨k1, k2, k3⟩ := up_step (f := ix (l.set i x)) (n := l.length) hi h0 I.a I.b (by rw [e1, e2]; exact hlt)
  refine ⟨by simpa using hp, ?_, ?_, ?_, fun _ => ?_, ?_⟩
  · rw [e3]; exact (swap_perm hs' hs).trans I.perm
  · rw [e4, List.length_set]; exact k1
  · rw [e4, List.length_set]; exact k2
  · rw [e4, List.length_set]; exact k3
  · have := I.at'.swap hs' hs hne
    rw [e3]
    rw [e2] at this ⊢
    exact this

theorem UpI.fin {l0 : List It} {x : It} {i0 i : Nat} {l : List It} {m : List (Int × Int)} (I : UpI l0 x i0 i l m) (hx : x = ix l0 i0) (hp : ordP (ix (l.set i x)) i) : UpR l0 i0 (l.set i x) (ups m x.x i) i := by
  have hi := I.lt
  have e1 : ix (l.set i x) i = x := by rw [ix_set hi]; simp [upd]
  refine ⟨by simpa using hi, I.perm, by rw [e1, hx], ?_, ?_, hp, fun h => ?_, ?_⟩
  · rw [List.length_set]; exact I.a
  · rw [List.length_set]; exact I.b
  · rw [List.length_set]; exact I.c h
  · have := I.at'.done (by simpa using hi)
    rwa [e1] at this

theorem up_spec (X : Nat → List Value → Option Value) {R : Nat → Option (List Value)} {F : List Asn} {S : AS} {h id : Nat} {lv sv : Value} {l : List It} {m : List (Int × Int)} (H : St R (hp h id lv sv l m F) S) {i : Nat} (hi : i < l.length) (hn : l.length < 1000000) (ha : ordA (ix l) l.length i) (hb : ordB (ix l) l.length i) (hx : AtX m l i) {Q : Value → AS → Prop}
    (hq : ∀ S' l' m' i', St R (hp h id lv sv l' m' F) S' → UpR l i l' m' i' → Q (.tuple #[]) S') : Ev G X 18 [.pointer (some ⟨h, 0, none⟩), .int .i64 i] S Q := by
  refine Ev.fnR (rs := R18) (c := A18) rfl ?_
  unfold A18
  obtain ⟨x, hxe⟩ : ∃ x, x = l[i] := ⟨_, rfl⟩
  have hb0 := H.pget
  obtain ⟨b, a, e1, e2, e3, e4, e5, e6, e7⟩ := SlT.put (H.pick 3 [1, 0, 2] rfl) hi .i64
  have e53 := e5 3 (Nat.le_refl _)
  rw [← hxe, enc_it, show List.take 3 [Value.int .i64 x.when, .int .i64 x.seq, .int .i64 x.x] = [Value.int .i64 x.when, .int .i64 x.seq, .int .i64 x.x] from rfl] at e53
  repeat' (first
      | (with_reducible first | refine go_assoc ?_ (Ev.mono _ _) | refine go_skip ?_ | refine go_fin ?_ | refine go_ret ?_ | refine go_ret0 ?_ | refine go_exit ?_ | refine go_exit0 ?_ | refine go_block ?_ | refine n_then ?_ | refine x_then ?_ | refine r_then ?_ | refine n_block ?_ | refine r_block ?_ | refine x_block ?_ | refine x_block_ne ?_ (by decide))
      | (with_reducible refine is_k ?_; refine go_k _ (by simp only [Ax.runK, Ax.runOps, Ax.run1, Ax.wantA, Ax.step, Ax.ev, Ax.evs, Ax.evo, Ax.evp, Ax.look, Ax.putE, Ax.keepE, Ax.argsE, Ax.extr, Ax.binV, Ax.intBin, Ax.unV, Ax.addOff, Ax.sizeN, Ax.mkV, Ax.okV, reduceIte, Nat.reduceEqDiff, Nat.reduceAdd, Nat.reduceLeDiff, Nat.reduceLT, Nat.reduceSub, Nat.reduceMul, reduceCtorEq, Int.reduceEq, Int.reduceLT, Int.reduceLE, Int.reduceAdd, Int.reduceSub, Int.reduceNeg, Int.reduceToNat, undef, Value.cells, axL, get1 hb0, e1, e53]; rfl) rfl ?_)
      | (with_reducible refine cond_t ?_ ?_; · simp only [Ax.ev, Ax.look, reduceIte, Nat.reduceEqDiff])
      | (with_reducible refine cond_f ?_ ?_; · simp only [Ax.ev, Ax.look, reduceIte, Nat.reduceEqDiff])
      | (with_reducible refine is_rp ?_; first | refine r_postR rfl ?_ | refine r_postR (by simp only [Ax.result, Ax.resVs, Ax.resV, R18, Ax.look, sizeN, mkV, Nat.reduceEqDiff, reduceIte, axL, get1 hb0, e1, e53]; rfl) ?_)
      | (with_reducible refine is_np ?_; first | refine n_postR rfl ?_ | refine n_postR (by simp only [Ax.result, Ax.resVs, Ax.resV, R18, Ax.look, sizeN, mkV, Nat.reduceEqDiff, reduceIte, axL, get1 hb0, e1, e53]; rfl) ?_)
      | (first | with_reducible refine is_wd ?_ | with_reducible refine dk_wd ?_); refine go_dt _ (by simp only [Ax.runDK, Ax.runDT, Ax.runDops, Ax.run1d, Ax.recs, Ax.okPair, Ax.idsE, Ax.idsV, AOp.mems, AOp.isWrite, DRec.none, axD, Ax.runK, Ax.runOps, Ax.run1, Ax.wantA, Ax.step, Ax.ev, Ax.evs, Ax.evo, Ax.evp, Ax.look, Ax.putE, Ax.keepE, Ax.argsE, Ax.extr, Ax.binV, Ax.intBin, Ax.unV, Ax.addOff, Ax.sizeN, Ax.mkV, Ax.okV, reduceIte, Nat.reduceEqDiff, Nat.reduceAdd, Nat.reduceLeDiff, Nat.reduceLT, Nat.reduceSub, Nat.reduceMul, reduceCtorEq, Int.reduceEq, Int.reduceLT, Int.reduceLE, Int.reduceAdd, Int.reduceSub, Int.reduceNeg, Int.reduceToNat, undef, Value.cells, axL, get1 hb0, e1, e53]; rfl) rfl ?_
      | (with_reducible first | refine end_reg (Ev.mono _ _) ?_ | refine end_dreg (Ev.mono _ _) ?_ | refine end_cond (Ev.mono _ _) ?_ | refine end_block (Ev.mono _ _) ?_ | refine end_loop (Ev.mono _ _) ?_))
  have H1 := H.newc [.int .i64 x.when, .int .i64 x.seq, .int .i64 x.x]
  generalize hbx : S.nx = bx at H1
  generalize S.new (.cells false [.int .i64 x.when, .int .i64 x.seq, .int .i64 x.x]) = T at H1
  have hset : l.set i x = l := by rw [hxe]; simp
  have hI : UpI l x i i l m := ⟨hi, by rw [hset], by rw [hset]; exact ha, by rw [hset]; exact hb, fun hc => by rw [hset]; exact hc.resolve_left (fun h => h rfl), by rw [hset]; exact hx⟩
  refine go_loop (Ev.mono _ _) (fun (g : Nat × List It × List (Int × Int)) ρ S' => UpI l x i g.1 g.2.1 g.2.2 ∧ ρ = [(1, .int .i64 g.1), (0, .pointer (some ⟨h, 0, none⟩)), (4, .pointer (some ⟨bx, 0, none⟩))] ∧ St R (pts bx [.int .i64 x.when, .int .i64 x.seq, .int .i64 x.x] :: hp h id lv sv g.2.1 g.2.2 F) S') (fun g => g.1) (i, l, m) ⟨hI, rfl, H1⟩ ?_
  clear H H1 hb0 e1 e2 e3 e4 e5 e6 e7 e53
  rintro ⟨k, l1, m1⟩ ρ S1 ⟨I, rfl, H⟩
  dsimp only at I H
  have hkl := I.lt
  have hbx := H.pget
  have hb0 := (H.pick 4 [1] rfl).pget
  have hlen : l1.length = l.length := by simpa using I.perm.length_eq
  by_cases h0 : 0 < k
  · obtain ⟨p, hpe⟩ : ∃ p, p = (k - 1) / 2 := ⟨_, rfl⟩
    have hpl : p < l1.length := by have := I.lt; omega
    obtain ⟨b, a, e1, e2, e3, e4, e5, e6, e7⟩ := SlT.put (H.pick 4 [2, 0, 1, 3] rfl) hpl .i64
    have e53 := e5 3 (Nat.le_refl _)
    rw [enc_it, show List.take 3 [Value.int .i64 l1[p].when, .int .i64 l1[p].seq, .int .i64 l1[p].x] = [Value.int .i64 l1[p].when, .int .i64 l1[p].seq, .int .i64 l1[p].x] from rfl] at e53
    have h0' : 0 < (k : Int) := by omega
    have w1 : IntKind.wrap .i64 ((k : Int) - 1) = (k : Int) - 1 := wrapI (by unfold I64; have := I.lt; omega)
    have w2 : IntKind.wrap .i64 (((k : Int) - 1).tdiv 2) = (p : Nat) := by
      have : ((k : Int) - 1).tdiv 2 = (p : Nat) := by rw [Int.tdiv_eq_ediv_of_nonneg (by omega)]; omega
      rw [this]; exact wrapI (by unfold I64; have := I.lt; omega)
    refine go_assoc ?_ (Ev.mono _ _)
    refine go_d ?_
    repeat' (with_reducible first | refine go_assoc ?_ (Ev.mono _ _) | refine go_skip ?_ | refine go_block ?_ | refine end_dreg (Ev.mono _ _) ?_ | refine go_d ?_)
    refine go_dcall0 13 _ (by simp only [Ax.runDN, Ax.runDK, Ax.runDT, Ax.runDops, Ax.run1d, Ax.recs, Ax.okPair, Ax.idsE, Ax.idsV, AOp.mems, AOp.isWrite, DRec.none, axD, Ax.runK, Ax.runOps, Ax.run1, Ax.wantA, Ax.step, Ax.ev, Ax.evs, Ax.evo, Ax.evp, Ax.look, Ax.putE, Ax.keepE, Ax.argsE, Ax.extr, Ax.binV, Ax.intBin, Ax.unV, Ax.addOff, Ax.sizeN, Ax.mkV, Ax.okV, reduceIte, Nat.reduceEqDiff, Nat.reduceAdd, Nat.reduceLeDiff, Nat.reduceLT, Nat.reduceSub, Nat.reduceMul, reduceCtorEq, Int.reduceEq, Int.reduceLT, Int.reduceLE, Int.reduceAdd, Int.reduceSub, Int.reduceNeg, Int.reduceToNat, undef, Value.cells, axL, get1 hb0, getAll (n := 3) hbx rfl, h0', w1, w2, e1, e53]; rfl) rfl rfl (by simp only [Ax.wantA, Ax.look, reduceIte, Nat.reduceEqDiff, bq_t, bq_f, Bool.not_true, Bool.not_false]; try rfl) rfl (by simp only [Ax.runK, Ax.runOps, Ax.run1, Ax.wantA, Ax.step, Ax.ev, Ax.evs, Ax.evo, Ax.evp, Ax.look, Ax.putE, Ax.keepE, Ax.argsE, Ax.extr, Ax.binV, Ax.intBin, Ax.unV, Ax.addOff, Ax.sizeN, Ax.mkV, Ax.okV, reduceIte, Nat.reduceEqDiff, Nat.reduceAdd, Nat.reduceLeDiff, Nat.reduceLT, Nat.reduceSub, Nat.reduceMul, reduceCtorEq, Int.reduceEq, Int.reduceLT, Int.reduceLE, Int.reduceAdd, Int.reduceSub, Int.reduceNeg, Int.reduceToNat, undef, Value.cells, axL, get1 hb0, getAll (n := 3) hbx rfl, h0', w1, w2, e1, e53]; try rfl) (by simp only [hidden, AS.roAt, AObj.ro, List.filter_cons, List.filter_nil, Nat.sub_self, List.range'_zero, Ax.runDK, Ax.runDT, Ax.runDops, Ax.run1d, Ax.recs, Ax.okPair, Ax.idsE, Ax.idsV, AOp.mems, AOp.isWrite, DRec.none, axD, Ax.runK, Ax.runOps, Ax.run1, Ax.wantA, Ax.step, Ax.ev, Ax.evs, Ax.evo, Ax.evp, Ax.look, Ax.putE, Ax.keepE, Ax.argsE, Ax.extr, Ax.binV, Ax.intBin, Ax.unV, Ax.addOff, Ax.sizeN, Ax.mkV, Ax.okV, reduceIte, Nat.reduceEqDiff, Nat.reduceAdd, Nat.reduceLeDiff, Nat.reduceLT, Nat.reduceSub, Nat.reduceMul, reduceCtorEq, Int.reduceEq, Int.reduceLT, Int.reduceLE, Int.reduceAdd, Int.reduceSub, Int.reduceNeg, Int.reduceToNat, undef, Value.cells, axL, get1 hb0, getAll (n := 3) hbx rfl, h0', w1, w2, e1, e53]; try rfl) ?_
    refine ahead_spec X x l1[p] (fun S2 hk2 => ?_)
    have H2 := H.keep hk2
    repeat' (first
      | (with_reducible first | refine go_assoc ?_ (Ev.mono _ _) | refine go_skip ?_ | refine go_fin ?_ | refine go_ret ?_ | refine go_ret0 ?_ | refine go_exit ?_ | refine go_exit0 ?_ | refine go_block ?_ | refine n_then ?_ | refine x_then ?_ | refine r_then ?_ | refine n_block ?_ | refine r_block ?_ | refine x_block ?_ | refine x_block_ne ?_ (by decide))
      | (with_reducible refine is_k ?_; refine go_k _ (by simp only [Ax.runK, Ax.runOps, Ax.run1, Ax.wantA, Ax.step, Ax.ev, Ax.evs, Ax.evo, Ax.evp, Ax.look, Ax.putE, Ax.keepE, Ax.argsE, Ax.extr, Ax.binV, Ax.intBin, Ax.unV, Ax.addOff, Ax.sizeN, Ax.mkV, Ax.okV, reduceIte, Nat.reduceEqDiff, Nat.reduceAdd, Nat.reduceLeDiff, Nat.reduceLT, Nat.reduceSub, Nat.reduceMul, reduceCtorEq, Int.reduceEq, Int.reduceLT, Int.reduceLE, Int.reduceAdd, Int.reduceSub, Int.reduceNeg, Int.reduceToNat, undef, Value.cells, axL, h0']; rfl) rfl ?_)
      | (with_reducible refine cond_t ?_ ?_; · simp only [Ax.ev, Ax.look, reduceIte, Nat.reduceEqDiff])
      | (with_reducible refine cond_f ?_ ?_; · simp only [Ax.ev, Ax.look, reduceIte, Nat.reduceEqDiff])
      | (with_reducible refine is_rp ?_; first | refine r_postR rfl ?_ | refine r_postR (by simp only [Ax.result, Ax.resVs, Ax.resV, R18, Ax.look, sizeN, mkV, Nat.reduceEqDiff, reduceIte, axL, h0']; rfl) ?_)
      | (with_reducible refine is_np ?_; first | refine n_postR rfl ?_ | refine n_postR (by simp only [Ax.result, Ax.resVs, Ax.resV, R18, Ax.look, sizeN, mkV, Nat.reduceEqDiff, reduceIte, axL, h0']; rfl) ?_)
      | (first | with_reducible refine is_wd ?_ | with_reducible refine dk_wd ?_); refine go_dt _ (by simp only [Ax.runDK, Ax.runDT, Ax.runDops, Ax.run1d, Ax.recs, Ax.okPair, Ax.idsE, Ax.idsV, AOp.mems, AOp.isWrite, DRec.none, axD, Ax.runK, Ax.runOps, Ax.run1, Ax.wantA, Ax.step, Ax.ev, Ax.evs, Ax.evo, Ax.evp, Ax.look, Ax.putE, Ax.keepE, Ax.argsE, Ax.extr, Ax.binV, Ax.intBin, Ax.unV, Ax.addOff, Ax.sizeN, Ax.mkV, Ax.okV, reduceIte, Nat.reduceEqDiff, Nat.reduceAdd, Nat.reduceLeDiff, Nat.reduceLT, Nat.reduceSub, Nat.reduceMul, reduceCtorEq, Int.reduceEq, Int.reduceLT, Int.reduceLE, Int.reduceAdd, Int.reduceSub, Int.reduceNeg, Int.reduceToNat, undef, Value.cells, axL, h0']; rfl) rfl ?_
      | (with_reducible first | refine end_reg (Ev.mono _ _) ?_ | refine end_dreg (Ev.mono _ _) ?_ | refine end_cond (Ev.mono _ _) ?_ | refine end_block (Ev.mono _ _) ?_ | refine end_loop (Ev.mono _ _) ?_))
    refine cond_d rfl (fun hlt => ?_) (fun hlt => ?_)
    · rw [ahead_lt] at hlt
      have hb2 := (H2.pick 4 [1] rfl).pget
      obtain ⟨b, a, e1, e2, e3, e4, e5, e6, e7⟩ := SlT.put (H2.pick 4 [2, 0, 1, 3] rfl) hpl .i64
      have e53 := e5 3 (Nat.le_refl _)
      rw [enc_it, show List.take 3 [Value.int .i64 l1[p].when, .int .i64 l1[p].seq, .int .i64 l1[p].x] = [Value.int .i64 l1[p].when, .int .i64 l1[p].seq, .int .i64 l1[p].x] from rfl] at e53
      refine go_skip ?_
      refine end_block (Ev.mono _ _) ?_
      refine go_block ?_
      repeat' (with_reducible first | refine go_assoc ?_ (Ev.mono _ _) | refine go_skip ?_ | refine go_block ?_ | refine end_reg (Ev.mono _ _) ?_)
      refine go_callN 11 _ (by simp only [Ax.runN, Ax.runK, Ax.runOps, Ax.run1, Ax.wantA, Ax.step, Ax.ev, Ax.evs, Ax.evo, Ax.evp, Ax.look, Ax.putE, Ax.keepE, Ax.argsE, Ax.extr, Ax.binV, Ax.intBin, Ax.unV, Ax.addOff, Ax.sizeN, Ax.mkV, Ax.okV, reduceIte, Nat.reduceEqDiff, Nat.reduceAdd, Nat.reduceLeDiff, Nat.reduceLT, Nat.reduceSub, Nat.reduceMul, reduceCtorEq, Int.reduceEq, Int.reduceLT, Int.reduceLE, Int.reduceAdd, Int.reduceSub, Int.reduceNeg, Int.reduceToNat, undef, Value.cells, axL, get1 hb2, w1, w2, e1, e53]; rfl) rfl rfl (by simp only [Ax.wantA, Ax.look, reduceIte, Nat.reduceEqDiff, bq_t, bq_f, Bool.not_true, Bool.not_false]; try rfl) rfl (by simp only [Ax.runK, Ax.runOps, Ax.run1, Ax.wantA, Ax.step, Ax.ev, Ax.evs, Ax.evo, Ax.evp, Ax.look, Ax.putE, Ax.keepE, Ax.argsE, Ax.extr, Ax.binV, Ax.intBin, Ax.unV, Ax.addOff, Ax.sizeN, Ax.mkV, Ax.okV, reduceIte, Nat.reduceEqDiff, Nat.reduceAdd, Nat.reduceLeDiff, Nat.reduceLT, Nat.reduceSub, Nat.reduceMul, reduceCtorEq, Int.reduceEq, Int.reduceLT, Int.reduceLE, Int.reduceAdd, Int.reduceSub, Int.reduceNeg, Int.reduceToNat, undef, Value.cells, axL, get1 hb2, w1, w2, e1, e53]; try rfl) ?_
      refine set_spec X (F := pts bx _ :: F) (H2.pick 4 [1, 2, 3, 0] rfl) hkl l1[p] (fun S3 H3 => ?_)
      repeat' (first
      | (with_reducible first | refine go_assoc ?_ (Ev.mono _ _) | refine go_skip ?_ | refine go_fin ?_ | refine go_ret ?_ | refine go_ret0 ?_ | refine go_exit ?_ | refine go_exit0 ?_ | refine go_block ?_ | refine n_then ?_ | refine x_then ?_ | refine r_then ?_ | refine n_block ?_ | refine r_block ?_ | refine x_block ?_ | refine x_block_ne ?_ (by decide))
      | (with_reducible refine is_k ?_; refine go_k _ (by simp only [Ax.runK, Ax.runOps, Ax.run1, Ax.wantA, Ax.step, Ax.ev, Ax.evs, Ax.evo, Ax.evp, Ax.look, Ax.putE, Ax.keepE, Ax.argsE, Ax.extr, Ax.binV, Ax.intBin, Ax.unV, Ax.addOff, Ax.sizeN, Ax.mkV, Ax.okV, reduceIte, Nat.reduceEqDiff, Nat.reduceAdd, Nat.reduceLeDiff, Nat.reduceLT, Nat.reduceSub, Nat.reduceMul, reduceCtorEq, Int.reduceEq, Int.reduceLT, Int.reduceLE, Int.reduceAdd, Int.reduceSub, Int.reduceNeg, Int.reduceToNat, undef, Value.cells, axL, w1, w2]; rfl) rfl ?_)
      | (with_reducible refine cond_t ?_ ?_; · simp only [Ax.ev, Ax.look, reduceIte, Nat.reduceEqDiff])
      | (with_reducible refine cond_f ?_ ?_; · simp only [Ax.ev, Ax.look, reduceIte, Nat.reduceEqDiff])
      | (with_reducible refine is_rp ?_; first | refine r_postR rfl ?_ | refine r_postR (by simp only [Ax.result, Ax.resVs, Ax.resV, R18, Ax.look, sizeN, mkV, Nat.reduceEqDiff, reduceIte, axL, w1, w2]; rfl) ?_)
      | (with_reducible refine is_np ?_; first | refine n_postR rfl ?_ | refine n_postR (by simp only [Ax.result, Ax.resVs, Ax.resV, R18, Ax.look, sizeN, mkV, Nat.reduceEqDiff, reduceIte, axL, w1, w2]; rfl) ?_)
      | (first | with_reducible refine is_wd ?_ | with_reducible refine dk_wd ?_); refine go_dt _ (by simp only [Ax.runDK, Ax.runDT, Ax.runDops, Ax.run1d, Ax.recs, Ax.okPair, Ax.idsE, Ax.idsV, AOp.mems, AOp.isWrite, DRec.none, axD, Ax.runK, Ax.runOps, Ax.run1, Ax.wantA, Ax.step, Ax.ev, Ax.evs, Ax.evo, Ax.evp, Ax.look, Ax.putE, Ax.keepE, Ax.argsE, Ax.extr, Ax.binV, Ax.intBin, Ax.unV, Ax.addOff, Ax.sizeN, Ax.mkV, Ax.okV, reduceIte, Nat.reduceEqDiff, Nat.reduceAdd, Nat.reduceLeDiff, Nat.reduceLT, Nat.reduceSub, Nat.reduceMul, reduceCtorEq, Int.reduceEq, Int.reduceLT, Int.reduceLE, Int.reduceAdd, Int.reduceSub, Int.reduceNeg, Int.reduceToNat, undef, Value.cells, axL, w1, w2]; rfl) rfl ?_
      | (with_reducible first | refine end_reg (Ev.mono _ _) ?_ | refine end_dreg (Ev.mono _ _) ?_ | refine end_cond (Ev.mono _ _) ?_ | refine end_block (Ev.mono _ _) ?_ | refine end_loop (Ev.mono _ _) ?_))
      refine ⟨(p, l1.set k l1[p], ups m1 l1[p].x k), by dsimp only; omega, ?_, rfl, H3.pick 4 [3, 0, 1, 2] rfl⟩
      dsimp only
      subst hpe
      exact I.step h0 hpl hlt
    · repeat' (first
      | (with_reducible first | refine go_assoc ?_ (Ev.mono _ _) | refine go_skip ?_ | refine go_fin ?_ | refine go_ret ?_ | refine go_ret0 ?_ | refine go_exit ?_ | refine go_exit0 ?_ | refine go_block ?_ | refine n_then ?_ | refine x_then ?_ | refine r_then ?_ | refine n_block ?_ | refine r_block ?_ | refine x_block ?_ | refine x_block_ne ?_ (by decide))
      | (with_reducible refine is_k ?_; refine go_k _ (by simp only [Ax.runK, Ax.runOps, Ax.run1, Ax.wantA, Ax.step, Ax.ev, Ax.evs, Ax.evo, Ax.evp, Ax.look, Ax.putE, Ax.keepE, Ax.argsE, Ax.extr, Ax.binV, Ax.intBin, Ax.unV, Ax.addOff, Ax.sizeN, Ax.mkV, Ax.okV, reduceIte, Nat.reduceEqDiff, Nat.reduceAdd, Nat.reduceLeDiff, Nat.reduceLT, Nat.reduceSub, Nat.reduceMul, reduceCtorEq, Int.reduceEq, Int.reduceLT, Int.reduceLE, Int.reduceAdd, Int.reduceSub, Int.reduceNeg, Int.reduceToNat, undef, Value.cells, axL]; rfl) rfl ?_)
      | (with_reducible refine cond_t ?_ ?_; · simp only [Ax.ev, Ax.look, reduceIte, Nat.reduceEqDiff])
      | (with_reducible refine cond_f ?_ ?_; · simp only [Ax.ev, Ax.look, reduceIte, Nat.reduceEqDiff])
      | (with_reducible refine is_rp ?_; first | refine r_postR rfl ?_ | refine r_postR (by simp only [Ax.result, Ax.resVs, Ax.resV, R18, Ax.look, sizeN, mkV, Nat.reduceEqDiff, reduceIte, axL]; rfl) ?_)
      | (with_reducible refine is_np ?_; first | refine n_postR rfl ?_ | refine n_postR (by simp only [Ax.result, Ax.resVs, Ax.resV, R18, Ax.look, sizeN, mkV, Nat.reduceEqDiff, reduceIte, axL]; rfl) ?_)
      | (first | with_reducible refine is_wd ?_ | with_reducible refine dk_wd ?_); refine go_dt _ (by simp only [Ax.runDK, Ax.runDT, Ax.runDops, Ax.run1d, Ax.recs, Ax.okPair, Ax.idsE, Ax.idsV, AOp.mems, AOp.isWrite, DRec.none, axD, Ax.runK, Ax.runOps, Ax.run1, Ax.wantA, Ax.step, Ax.ev, Ax.evs, Ax.evo, Ax.evp, Ax.look, Ax.putE, Ax.keepE, Ax.argsE, Ax.extr, Ax.binV, Ax.intBin, Ax.unV, Ax.addOff, Ax.sizeN, Ax.mkV, Ax.okV, reduceIte, Nat.reduceEqDiff, Nat.reduceAdd, Nat.reduceLeDiff, Nat.reduceLT, Nat.reduceSub, Nat.reduceMul, reduceCtorEq, Int.reduceEq, Int.reduceLT, Int.reduceLE, Int.reduceAdd, Int.reduceSub, Int.reduceNeg, Int.reduceToNat, undef, Value.cells, axL]; rfl) rfl ?_
      | (with_reducible first | refine end_reg (Ev.mono _ _) ?_ | refine end_dreg (Ev.mono _ _) ?_ | refine end_cond (Ev.mono _ _) ?_ | refine end_block (Ev.mono _ _) ?_ | refine end_loop (Ev.mono _ _) ?_))
      repeat' (with_reducible first | refine go_assoc ?_ (Ev.mono _ _) | refine go_skip ?_ | refine go_block ?_ | refine end_reg (Ev.mono _ _) ?_)
      refine go_callN 3 _ (by simp only [Ax.runN, Ax.runK, Ax.runOps, Ax.run1, Ax.wantA, Ax.step, Ax.ev, Ax.evs, Ax.evo, Ax.evp, Ax.look, Ax.putE, Ax.keepE, Ax.argsE, Ax.extr, Ax.binV, Ax.intBin, Ax.unV, Ax.addOff, Ax.sizeN, Ax.mkV, Ax.okV, reduceIte, Nat.reduceEqDiff, Nat.reduceAdd, Nat.reduceLeDiff, Nat.reduceLT, Nat.reduceSub, Nat.reduceMul, reduceCtorEq, Int.reduceEq, Int.reduceLT, Int.reduceLE, Int.reduceAdd, Int.reduceSub, Int.reduceNeg, Int.reduceToNat, undef, Value.cells, axL, getAll (n := 3) (H2.pget) rfl]; rfl) rfl rfl (by simp only [Ax.wantA, Ax.look, reduceIte, Nat.reduceEqDiff, bq_t, bq_f, Bool.not_true, Bool.not_false]; try rfl) rfl (by simp only [Ax.runK, Ax.runOps, Ax.run1, Ax.wantA, Ax.step, Ax.ev, Ax.evs, Ax.evo, Ax.evp, Ax.look, Ax.putE, Ax.keepE, Ax.argsE, Ax.extr, Ax.binV, Ax.intBin, Ax.unV, Ax.addOff, Ax.sizeN, Ax.mkV, Ax.okV, reduceIte, Nat.reduceEqDiff, Nat.reduceAdd, Nat.reduceLeDiff, Nat.reduceLT, Nat.reduceSub, Nat.reduceMul, reduceCtorEq, Int.reduceEq, Int.reduceLT, Int.reduceLE, Int.reduceAdd, Int.reduceSub, Int.reduceNeg, Int.reduceToNat, undef, Value.cells, axL, getAll (n := 3) (H2.pget) rfl]; try rfl) ?_
      refine set_spec X (F := pts bx _ :: F) (H2.pick 4 [1, 2, 3, 0] rfl) hkl x (fun S3 H3 => ?_)
      repeat' (first
      | (with_reducible first | refine go_assoc ?_ (Ev.mono _ _) | refine go_skip ?_ | refine go_fin ?_ | refine go_ret ?_ | refine go_ret0 ?_ | refine go_exit ?_ | refine go_exit0 ?_ | refine go_block ?_ | refine n_then ?_ | refine x_then ?_ | refine r_then ?_ | refine n_block ?_ | refine r_block ?_ | refine x_block ?_ | refine x_block_ne ?_ (by decide))
      | (with_reducible refine is_k ?_; refine go_k _ (by simp only [Ax.runK, Ax.runOps, Ax.run1, Ax.wantA, Ax.step, Ax.ev, Ax.evs, Ax.evo, Ax.evp, Ax.look, Ax.putE, Ax.keepE, Ax.argsE, Ax.extr, Ax.binV, Ax.intBin, Ax.unV, Ax.addOff, Ax.sizeN, Ax.mkV, Ax.okV, reduceIte, Nat.reduceEqDiff, Nat.reduceAdd, Nat.reduceLeDiff, Nat.reduceLT, Nat.reduceSub, Nat.reduceMul, reduceCtorEq, Int.reduceEq, Int.reduceLT, Int.reduceLE, Int.reduceAdd, Int.reduceSub, Int.reduceNeg, Int.reduceToNat, undef, Value.cells, axL]; rfl) rfl ?_)
      | (with_reducible refine cond_t ?_ ?_; · simp only [Ax.ev, Ax.look, reduceIte, Nat.reduceEqDiff])
      | (with_reducible refine cond_f ?_ ?_; · simp only [Ax.ev, Ax.look, reduceIte, Nat.reduceEqDiff])
      | (with_reducible refine is_rp ?_; first | refine r_postR rfl ?_ | refine r_postR (by simp only [Ax.result, Ax.resVs, Ax.resV, R18, Ax.look, sizeN, mkV, Nat.reduceEqDiff, reduceIte, axL]; rfl) ?_)
      | (with_reducible refine is_np ?_; first | refine n_postR rfl ?_ | refine n_postR (by simp only [Ax.result, Ax.resVs, Ax.resV, R18, Ax.look, sizeN, mkV, Nat.reduceEqDiff, reduceIte, axL]; rfl) ?_)
      | (first | with_reducible refine is_wd ?_ | with_reducible refine dk_wd ?_); refine go_dt _ (by simp only [Ax.runDK, Ax.runDT, Ax.runDops, Ax.run1d, Ax.recs, Ax.okPair, Ax.idsE, Ax.idsV, AOp.mems, AOp.isWrite, DRec.none, axD, Ax.runK, Ax.runOps, Ax.run1, Ax.wantA, Ax.step, Ax.ev, Ax.evs, Ax.evo, Ax.evp, Ax.look, Ax.putE, Ax.keepE, Ax.argsE, Ax.extr, Ax.binV, Ax.intBin, Ax.unV, Ax.addOff, Ax.sizeN, Ax.mkV, Ax.okV, reduceIte, Nat.reduceEqDiff, Nat.reduceAdd, Nat.reduceLeDiff, Nat.reduceLT, Nat.reduceSub, Nat.reduceMul, reduceCtorEq, Int.reduceEq, Int.reduceLT, Int.reduceLE, Int.reduceAdd, Int.reduceSub, Int.reduceNeg, Int.reduceToNat, undef, Value.cells, axL]; rfl) rfl ?_
      | (with_reducible first | refine end_reg (Ev.mono _ _) ?_ | refine end_dreg (Ev.mono _ _) ?_ | refine end_cond (Ev.mono _ _) ?_ | refine end_block (Ev.mono _ _) ?_ | refine end_loop (Ev.mono _ _) ?_))
      refine hq _ _ _ _ (H3.pick 4 [0, 1, 2] rfl) (I.fin (by rw [hxe, ix_get hi]) ?_)
      rw [ahead_lt] at hlt
      intro _
      rw [ix_set hkl]
      have : (k - 1) / 2 ≠ k := by omega
      simp only [upd, if_true, if_neg this]
      rw [← hpe, ix_get hpl]
      exact hlt
  · have h0' : ¬ 0 < (k : Int) := by omega
    repeat' (first
      | (with_reducible first | refine go_assoc ?_ (Ev.mono _ _) | refine go_skip ?_ | refine go_fin ?_ | refine go_ret ?_ | refine go_ret0 ?_ | refine go_exit ?_ | refine go_exit0 ?_ | refine go_block ?_ | refine n_then ?_ | refine x_then ?_ | refine r_then ?_ | refine n_block ?_ | refine r_block ?_ | refine x_block ?_ | refine x_block_ne ?_ (by decide))
      | (with_reducible refine is_k ?_; refine go_k _ (by simp only [Ax.runK, Ax.runOps, Ax.run1, Ax.wantA, Ax.step, Ax.ev, Ax.evs, Ax.evo, Ax.evp, Ax.look, Ax.putE, Ax.keepE, Ax.argsE, Ax.extr, Ax.binV, Ax.intBin, Ax.unV, Ax.addOff, Ax.sizeN, Ax.mkV, Ax.okV, reduceIte, Nat.reduceEqDiff, Nat.reduceAdd, Nat.reduceLeDiff, Nat.reduceLT, Nat.reduceSub, Nat.reduceMul, reduceCtorEq, Int.reduceEq, Int.reduceLT, Int.reduceLE, Int.reduceAdd, Int.reduceSub, Int.reduceNeg, Int.reduceToNat, undef, Value.cells, axL, h0']; rfl) rfl ?_)
      | (with_reducible refine cond_t ?_ ?_; · simp only [Ax.ev, Ax.look, reduceIte, Nat.reduceEqDiff])
      | (with_reducible refine cond_f ?_ ?_; · simp only [Ax.ev, Ax.look, reduceIte, Nat.reduceEqDiff])
      | (with_reducible refine is_rp ?_; first | refine r_postR rfl ?_ | refine r_postR (by simp only [Ax.result, Ax.resVs, Ax.resV, R18, Ax.look, sizeN, mkV, Nat.reduceEqDiff, reduceIte, axL, h0']; rfl) ?_)
      | (with_reducible refine is_np ?_; first | refine n_postR rfl ?_ | refine n_postR (by simp only [Ax.result, Ax.resVs, Ax.resV, R18, Ax.look, sizeN, mkV, Nat.reduceEqDiff, reduceIte, axL, h0']; rfl) ?_)
      | (first | with_reducible refine is_wd ?_ | with_reducible refine dk_wd ?_); refine go_dt _ (by simp only [Ax.runDK, Ax.runDT, Ax.runDops, Ax.run1d, Ax.recs, Ax.okPair, Ax.idsE, Ax.idsV, AOp.mems, AOp.isWrite, DRec.none, axD, Ax.runK, Ax.runOps, Ax.run1, Ax.wantA, Ax.step, Ax.ev, Ax.evs, Ax.evo, Ax.evp, Ax.look, Ax.putE, Ax.keepE, Ax.argsE, Ax.extr, Ax.binV, Ax.intBin, Ax.unV, Ax.addOff, Ax.sizeN, Ax.mkV, Ax.okV, reduceIte, Nat.reduceEqDiff, Nat.reduceAdd, Nat.reduceLeDiff, Nat.reduceLT, Nat.reduceSub, Nat.reduceMul, reduceCtorEq, Int.reduceEq, Int.reduceLT, Int.reduceLE, Int.reduceAdd, Int.reduceSub, Int.reduceNeg, Int.reduceToNat, undef, Value.cells, axL, h0']; rfl) rfl ?_
      | (with_reducible first | refine end_reg (Ev.mono _ _) ?_ | refine end_dreg (Ev.mono _ _) ?_ | refine end_cond (Ev.mono _ _) ?_ | refine end_block (Ev.mono _ _) ?_ | refine end_loop (Ev.mono _ _) ?_))
    repeat' (with_reducible first | refine go_assoc ?_ (Ev.mono _ _) | refine go_skip ?_ | refine go_block ?_ | refine end_reg (Ev.mono _ _) ?_)
    refine go_callN 3 _ (by simp only [Ax.runN, Ax.runK, Ax.runOps, Ax.run1, Ax.wantA, Ax.step, Ax.ev, Ax.evs, Ax.evo, Ax.evp, Ax.look, Ax.putE, Ax.keepE, Ax.argsE, Ax.extr, Ax.binV, Ax.intBin, Ax.unV, Ax.addOff, Ax.sizeN, Ax.mkV, Ax.okV, reduceIte, Nat.reduceEqDiff, Nat.reduceAdd, Nat.reduceLeDiff, Nat.reduceLT, Nat.reduceSub, Nat.reduceMul, reduceCtorEq, Int.reduceEq, Int.reduceLT, Int.reduceLE, Int.reduceAdd, Int.reduceSub, Int.reduceNeg, Int.reduceToNat, undef, Value.cells, axL, getAll (n := 3) hbx rfl]; rfl) rfl rfl (by simp only [Ax.wantA, Ax.look, reduceIte, Nat.reduceEqDiff, bq_t, bq_f, Bool.not_true, Bool.not_false]; try rfl) rfl (by simp only [Ax.runK, Ax.runOps, Ax.run1, Ax.wantA, Ax.step, Ax.ev, Ax.evs, Ax.evo, Ax.evp, Ax.look, Ax.putE, Ax.keepE, Ax.argsE, Ax.extr, Ax.binV, Ax.intBin, Ax.unV, Ax.addOff, Ax.sizeN, Ax.mkV, Ax.okV, reduceIte, Nat.reduceEqDiff, Nat.reduceAdd, Nat.reduceLeDiff, Nat.reduceLT, Nat.reduceSub, Nat.reduceMul, reduceCtorEq, Int.reduceEq, Int.reduceLT, Int.reduceLE, Int.reduceAdd, Int.reduceSub, Int.reduceNeg, Int.reduceToNat, undef, Value.cells, axL, getAll (n := 3) hbx rfl]; try rfl) ?_
    refine set_spec X (F := pts bx _ :: F) (H.pick 4 [1, 2, 3, 0] rfl) hkl x (fun S3 H3 => ?_)
    repeat' (first
      | (with_reducible first | refine go_assoc ?_ (Ev.mono _ _) | refine go_skip ?_ | refine go_fin ?_ | refine go_ret ?_ | refine go_ret0 ?_ | refine go_exit ?_ | refine go_exit0 ?_ | refine go_block ?_ | refine n_then ?_ | refine x_then ?_ | refine r_then ?_ | refine n_block ?_ | refine r_block ?_ | refine x_block ?_ | refine x_block_ne ?_ (by decide))
      | (with_reducible refine is_k ?_; refine go_k _ (by simp only [Ax.runK, Ax.runOps, Ax.run1, Ax.wantA, Ax.step, Ax.ev, Ax.evs, Ax.evo, Ax.evp, Ax.look, Ax.putE, Ax.keepE, Ax.argsE, Ax.extr, Ax.binV, Ax.intBin, Ax.unV, Ax.addOff, Ax.sizeN, Ax.mkV, Ax.okV, reduceIte, Nat.reduceEqDiff, Nat.reduceAdd, Nat.reduceLeDiff, Nat.reduceLT, Nat.reduceSub, Nat.reduceMul, reduceCtorEq, Int.reduceEq, Int.reduceLT, Int.reduceLE, Int.reduceAdd, Int.reduceSub, Int.reduceNeg, Int.reduceToNat, undef, Value.cells, axL]; rfl) rfl ?_)
      | (with_reducible refine cond_t ?_ ?_; · simp only [Ax.ev, Ax.look, reduceIte, Nat.reduceEqDiff])
      | (with_reducible refine cond_f ?_ ?_; · simp only [Ax.ev, Ax.look, reduceIte, Nat.reduceEqDiff])
      | (with_reducible refine is_rp ?_; first | refine r_postR rfl ?_ | refine r_postR (by simp only [Ax.result, Ax.resVs, Ax.resV, R18, Ax.look, sizeN, mkV, Nat.reduceEqDiff, reduceIte, axL]; rfl) ?_)
      | (with_reducible refine is_np ?_; first | refine n_postR rfl ?_ | refine n_postR (by simp only [Ax.result, Ax.resVs, Ax.resV, R18, Ax.look, sizeN, mkV, Nat.reduceEqDiff, reduceIte, axL]; rfl) ?_)
      | (first | with_reducible refine is_wd ?_ | with_reducible refine dk_wd ?_); refine go_dt _ (by simp only [Ax.runDK, Ax.runDT, Ax.runDops, Ax.run1d, Ax.recs, Ax.okPair, Ax.idsE, Ax.idsV, AOp.mems, AOp.isWrite, DRec.none, axD, Ax.runK, Ax.runOps, Ax.run1, Ax.wantA, Ax.step, Ax.ev, Ax.evs, Ax.evo, Ax.evp, Ax.look, Ax.putE, Ax.keepE, Ax.argsE, Ax.extr, Ax.binV, Ax.intBin, Ax.unV, Ax.addOff, Ax.sizeN, Ax.mkV, Ax.okV, reduceIte, Nat.reduceEqDiff, Nat.reduceAdd, Nat.reduceLeDiff, Nat.reduceLT, Nat.reduceSub, Nat.reduceMul, reduceCtorEq, Int.reduceEq, Int.reduceLT, Int.reduceLE, Int.reduceAdd, Int.reduceSub, Int.reduceNeg, Int.reduceToNat, undef, Value.cells, axL]; rfl) rfl ?_
      | (with_reducible first | refine end_reg (Ev.mono _ _) ?_ | refine end_dreg (Ev.mono _ _) ?_ | refine end_cond (Ev.mono _ _) ?_ | refine end_block (Ev.mono _ _) ?_ | refine end_loop (Ev.mono _ _) ?_))
    exact hq _ _ _ _ (H3.pick 4 [0, 1, 2] rfl) (I.fin (by rw [hxe, ix_get hi]) (fun h => absurd h h0))

end Go.Proofs.Ytboclpaokecalaa

/- Law 06: 'down'. -/
namespace Go.Proofs.Ytboclpaokecalaa
open Go.Ax
open Go.Ax.Enc (enc)

/-- A thing of the row, read. -/
theorem itAt {R : Nat → Option (List Value)} {A : List Asn} {S : AS} {lv : Value} {l : List It} (H : St R (SlT lv l :: A) S) {k : Nat} (hk : k < l.length) : ∃ b a, idxSl 3 lv (.int .i64 k) = some (.pointer (some ⟨b, a, none⟩)) ∧ b < S.nx ∧ getCells S b a 3 = some [.int .i64 l[k].when, .int .i64 l[k].seq, .int .i64 l[k].x] ∧
    getCells S b a 1 = some [.int .i64 l[k].when] ∧ getCells S b (a + 1) 1 = some [.int .i64 l[k].seq] ∧ getCells S b (a + 2) 1 = some [.int .i64 l[k].x] := by
  obtain ⟨b, a, h1, h2, h3, h4⟩ := RdT.at (SlT.read H) hk .i64
  exact ⟨b, a, h1, h2, h3, h4 0 _ (by omega) rfl, h4 1 _ (by omega) rfl, h4 2 _ (by omega) rfl⟩

structure DownI (l0 : List It) (x : It) (i0 : Nat) (i : Nat) (l : List It) (m : List (Int × Int)) : Prop where
  lt : i < l.length
  perm : (l.set i x).Perm l0
  a : ordA (ix (l.set i x)) l.length i
  b : ordB (ix (l.set i x)) l.length i
  p : ordP (ix (l.set i x)) i
  at' : AtX m (l.set i x) i

theorem DownI.step {l0 : List It} {x : It} {i0 i k : Nat} {l : List It} {m : List (Int × Int)} (I : DownI l0 x i0 i l m) (hk : k < l.length) (hk0 : 0 < k) (hki : (k - 1) / 2 = i) (hmin : ∀ j, j < l.length → 0 < j → (j - 1) / 2 = i → ¬ ltI (ix l j) l[k]) (hge : ¬ ltI x l[k]) : DownI l0 x i0 k (l.set i l[k]) (ups m l[k].x i) := by
  have hne : i ≠ k := by omega
  have hi := I.lt
  have e1 : ix (l.set i x) i = x := by rw [ix_set hi]; simp [upd]
  have e2 : ix (l.set i x) k = l[k] := by rw [ix_set hi]; simp only [upd, if_neg (Ne.symm hne)]; exact ix_get hk
  have e3 : (l.set i l[k]).set k x = ((l.set i x).set i (ix (l.set i x) k)).set k (ix (l.set i x) i) := by rw [e1, e2, List.set_set]
  have hs : k < (l.set i x).length := by simpa using hk
  have hs' : i < (l.set i x).length := by simpa using hi
  have e4 : ix ((l.set i l[k]).set k x) = upd (upd (ix (l.set i x)) i (ix (l.set i x) k)) k (ix (l.set i x) i) := by
    rw [e3, ix_set (by simpa using hk), ix_set hs']
  obtain ⟨k1, k2, k3⟩ := down_step (f := ix (l.set i x)) (n := l.length) hk hk0 hki I.a I.b (fun j hj h0 hp => by
    have hji : j ≠ i := by omega
    have e5 : ix (l.set i x) j = ix l j := by rw [ix_set hi]; simp only [upd, if_neg hji]
    rw [e2, e5]; exact hmin j hj h0 hp) (by rw [e1, e2]; exact hge)
  refine ⟨by simpa using hk, ?_, ?_, ?_, ?_, ?_⟩
  · rw [e3]; exact (swap_perm hs' hs).trans I.perm
  · rw [e4, List.length_set]; exact k1
  · rw [e4, List.length_set]; exact k2
  · rw [e4]; exact k3
  · have := I.at'.swap hs' hs hne
    rw [e3]
    rw [e2] at this ⊢
    exact this

structure DownR (l : List It) (l' : List It) (m' : List (Int × Int)) : Prop where
  perm : l'.Perm l
  ord : Ord (ix l') l'.length
  at' : AtOk m' l'

theorem DownI.fin {l0 : List It} {x : It} {i0 i : Nat} {l : List It} {m : List (Int × Int)} (I : DownI l0 x i0 i l m) (hc : ∀ j, j < l.length → 0 < j → (j - 1) / 2 = i → ¬ ltI (ix l j) x) : DownR l0 (l.set i x) (ups m x.x i) := by
  have hi := I.lt
  have e1 : ix (l.set i x) i = x := by rw [ix_set hi]; simp [upd]
  refine ⟨I.perm, ?_, ?_⟩
  · rw [List.length_set]
    refine ord_of I.a (fun j hj h0 hp => ?_) I.p
    have hji : j ≠ i := by omega
    have e5 : ix (l.set i x) j = ix l j := by rw [ix_set hi]; simp only [upd, if_neg hji]
    rw [e1, e5]; exact hc j hj h0 hp
  · have := I.at'.done (by simpa using hi)
    rwa [e1] at this

theorem down_spec (X : Nat → List Value → Option Value) {R : Nat → Option (List Value)} {F : List Asn} {S : AS} {h id : Nat} {lv sv : Value} {l : List It} {m : List (Int × Int)} (H : St R (hp h id lv sv l m F) S) {i : Nat} (hi : i < l.length) (hn : l.length < 1000000) (ha : ordA (ix l) l.length i) (hb : ordB (ix l) l.length i) (hpp : ordP (ix l) i) (hx : AtX m l i) {Q : Value → AS → Prop}
    (hq : ∀ S' l' m', St R (hp h id lv sv l' m' F) S' → DownR l l' m' → Q (.tuple #[]) S') : Ev G X 32 [.pointer (some ⟨h, 0, none⟩), .int .i64 i] S Q := by
  refine Ev.fnR (rs := R32) (c := A32) rfl ?_
  unfold A32
  obtain ⟨x, hxe⟩ : ∃ x, x = l[i] := ⟨_, rfl⟩
  have hb0 := H.pget
  obtain ⟨b, a, e1, e2, e3, _⟩ := itAt (H.pick 3 [1, 0, 2] rfl) hi
  rw [← hxe] at e3
  repeat' (first
      | (with_reducible first | refine go_assoc ?_ (Ev.mono _ _) | refine go_skip ?_ | refine go_fin ?_ | refine go_ret ?_ | refine go_ret0 ?_ | refine go_exit ?_ | refine go_exit0 ?_ | refine go_block ?_ | refine n_then ?_ | refine x_then ?_ | refine r_then ?_ | refine n_block ?_ | refine r_block ?_ | refine x_block ?_ | refine x_block_ne ?_ (by decide))
      | (with_reducible refine is_k ?_; refine go_k _ (by simp only [Ax.runK, Ax.runOps, Ax.run1, Ax.wantA, Ax.step, Ax.ev, Ax.evs, Ax.evo, Ax.evp, Ax.look, Ax.putE, Ax.keepE, Ax.argsE, Ax.extr, Ax.binV, Ax.intBin, Ax.unV, Ax.addOff, Ax.sizeN, Ax.mkV, Ax.okV, reduceIte, Nat.reduceEqDiff, Nat.reduceAdd, Nat.reduceLeDiff, Nat.reduceLT, Nat.reduceSub, Nat.reduceMul, reduceCtorEq, Int.reduceEq, Int.reduceLT, Int.reduceLE, Int.reduceAdd, Int.reduceSub, Int.reduceNeg, Int.reduceToNat, undef, Value.cells, axL, get1 hb0, e1, e3]; rfl) rfl ?_)
      | (with_reducible refine cond_t ?_ ?_; · simp only [Ax.ev, Ax.look, reduceIte, Nat.reduceEqDiff])
      | (with_reducible refine cond_f ?_ ?_; · simp only [Ax.ev, Ax.look, reduceIte, Nat.reduceEqDiff])
      | (with_reducible refine is_rp ?_; first | refine r_postR rfl ?_ | refine r_postR (by simp only [Ax.result, Ax.resVs, Ax.resV, R32, Ax.look, sizeN, mkV, Nat.reduceEqDiff, reduceIte, axL, get1 hb0, e1, e3]; rfl) ?_)
      | (with_reducible refine is_np ?_; first | refine n_postR rfl ?_ | refine n_postR (by simp only [Ax.result, Ax.resVs, Ax.resV, R32, Ax.look, sizeN, mkV, Nat.reduceEqDiff, reduceIte, axL, get1 hb0, e1, e3]; rfl) ?_)
      | (first | with_reducible refine is_wd ?_ | with_reducible refine dk_wd ?_); refine go_dt _ (by simp only [Ax.runDK, Ax.runDT, Ax.runDops, Ax.run1d, Ax.recs, Ax.okPair, Ax.idsE, Ax.idsV, AOp.mems, AOp.isWrite, DRec.none, axD, Ax.runK, Ax.runOps, Ax.run1, Ax.wantA, Ax.step, Ax.ev, Ax.evs, Ax.evo, Ax.evp, Ax.look, Ax.putE, Ax.keepE, Ax.argsE, Ax.extr, Ax.binV, Ax.intBin, Ax.unV, Ax.addOff, Ax.sizeN, Ax.mkV, Ax.okV, reduceIte, Nat.reduceEqDiff, Nat.reduceAdd, Nat.reduceLeDiff, Nat.reduceLT, Nat.reduceSub, Nat.reduceMul, reduceCtorEq, Int.reduceEq, Int.reduceLT, Int.reduceLE, Int.reduceAdd, Int.reduceSub, Int.reduceNeg, Int.reduceToNat, undef, Value.cells, axL, get1 hb0, e1, e3]; rfl) rfl ?_
      | (with_reducible first | refine end_reg (Ev.mono _ _) ?_ | refine end_dreg (Ev.mono _ _) ?_ | refine end_cond (Ev.mono _ _) ?_ | refine end_block (Ev.mono _ _) ?_ | refine end_loop (Ev.mono _ _) ?_))
  have H1 := H.newc [.int .i64 x.when, .int .i64 x.seq, .int .i64 x.x]
  generalize S.nx = bx at H1
  generalize S.new (.cells false [.int .i64 x.when, .int .i64 x.seq, .int .i64 x.x]) = T at H1
  have hset : l.set i x = l := by rw [hxe]; simp
  have hI : DownI l x i i l m := ⟨hi, by rw [hset], by rw [hset]; exact ha, by rw [hset]; exact hb, by rw [hset]; exact hpp, by rw [hset]; exact hx⟩
  refine go_loop (Ev.mono _ _) (fun (g : Nat × List It × List (Int × Int)) ρ S' => DownI l x i g.1 g.2.1 g.2.2 ∧ ρ = [(4, .pointer (some ⟨bx, 0, none⟩)), (1, .int .i64 g.1), (0, .pointer (some ⟨h, 0, none⟩))] ∧ St R (pts bx [.int .i64 x.when, .int .i64 x.seq, .int .i64 x.x] :: hp h id lv sv g.2.1 g.2.2 F) S') (fun g => l.length - g.1) (i, l, m) ⟨hI, rfl, H1⟩ ?_
  clear H H1 hb0 e1 e2 e3
  rintro ⟨j, l1, m1⟩ ρ S1 ⟨I, rfl, H⟩
  dsimp only at I H
  have hjl := I.lt
  have hbx := H.pget
  have hb0 := (H.pick 4 [1] rfl).pget
  have hlen : l1.length = l.length := by simpa using I.perm.length_eq
  have hlv := SlT.len (H.pick 4 [2] rfl)
  obtain ⟨k, hke⟩ : ∃ k, k = 2 * j + 1 := ⟨_, rfl⟩
  have w1 : IntKind.wrap .i64 (2 * (j : Int)) = 2 * (j : Int) := wrapI (by unfold I64; omega)
  have w2 : IntKind.wrap .i64 (2 * (j : Int) + 1) = (k : Nat) := by
    have : 2 * (j : Int) + 1 = (k : Nat) := by omega
    rw [this]; exact wrapI (by unfold I64; omega)
  repeat' (first
      | (with_reducible first | refine go_assoc ?_ (Ev.mono _ _) | refine go_skip ?_ | refine go_fin ?_ | refine go_ret ?_ | refine go_ret0 ?_ | refine go_exit ?_ | refine go_exit0 ?_ | refine go_block ?_ | refine n_then ?_ | refine x_then ?_ | refine r_then ?_ | refine n_block ?_ | refine r_block ?_ | refine x_block ?_ | refine x_block_ne ?_ (by decide))
      | (with_reducible refine is_k ?_; refine go_k _ (by simp only [Ax.runK, Ax.runOps, Ax.run1, Ax.wantA, Ax.step, Ax.ev, Ax.evs, Ax.evo, Ax.evp, Ax.look, Ax.putE, Ax.keepE, Ax.argsE, Ax.extr, Ax.binV, Ax.intBin, Ax.unV, Ax.addOff, Ax.sizeN, Ax.mkV, Ax.okV, reduceIte, Nat.reduceEqDiff, Nat.reduceAdd, Nat.reduceLeDiff, Nat.reduceLT, Nat.reduceSub, Nat.reduceMul, reduceCtorEq, Int.reduceEq, Int.reduceLT, Int.reduceLE, Int.reduceAdd, Int.reduceSub, Int.reduceNeg, Int.reduceToNat, undef, Value.cells, axL, get1 hb0, w1, w2, hlv]; rfl) rfl ?_)
      | (with_reducible refine cond_t ?_ ?_; · simp only [Ax.ev, Ax.look, reduceIte, Nat.reduceEqDiff])
      | (with_reducible refine cond_f ?_ ?_; · simp only [Ax.ev, Ax.look, reduceIte, Nat.reduceEqDiff])
      | (with_reducible refine is_rp ?_; first | refine r_postR rfl ?_ | refine r_postR (by simp only [Ax.result, Ax.resVs, Ax.resV, R32, Ax.look, sizeN, mkV, Nat.reduceEqDiff, reduceIte, axL, get1 hb0, w1, w2, hlv]; rfl) ?_)
      | (with_reducible refine is_np ?_; first | refine n_postR rfl ?_ | refine n_postR (by simp only [Ax.result, Ax.resVs, Ax.resV, R32, Ax.look, sizeN, mkV, Nat.reduceEqDiff, reduceIte, axL, get1 hb0, w1, w2, hlv]; rfl) ?_)
      | (first | with_reducible refine is_wd ?_ | with_reducible refine dk_wd ?_); refine go_dt _ (by simp only [Ax.runDK, Ax.runDT, Ax.runDops, Ax.run1d, Ax.recs, Ax.okPair, Ax.idsE, Ax.idsV, AOp.mems, AOp.isWrite, DRec.none, axD, Ax.runK, Ax.runOps, Ax.run1, Ax.wantA, Ax.step, Ax.ev, Ax.evs, Ax.evo, Ax.evp, Ax.look, Ax.putE, Ax.keepE, Ax.argsE, Ax.extr, Ax.binV, Ax.intBin, Ax.unV, Ax.addOff, Ax.sizeN, Ax.mkV, Ax.okV, reduceIte, Nat.reduceEqDiff, Nat.reduceAdd, Nat.reduceLeDiff, Nat.reduceLT, Nat.reduceSub, Nat.reduceMul, reduceCtorEq, Int.reduceEq, Int.reduceLT, Int.reduceLE, Int.reduceAdd, Int.reduceSub, Int.reduceNeg, Int.reduceToNat, undef, Value.cells, axL, get1 hb0, w1, w2, hlv]; rfl) rfl ?_
      | (with_reducible first | refine end_reg (Ev.mono _ _) ?_ | refine end_dreg (Ev.mono _ _) ?_ | refine end_cond (Ev.mono _ _) ?_ | refine end_block (Ev.mono _ _) ?_ | refine end_loop (Ev.mono _ _) ?_))
  refine cond_d rfl (fun hlt => ?_) (fun hlt => ?_)
  · have hkl : k < l1.length := by omega
    repeat' (first
      | (with_reducible first | refine go_assoc ?_ (Ev.mono _ _) | refine go_skip ?_ | refine go_fin ?_ | refine go_ret ?_ | refine go_ret0 ?_ | refine go_exit ?_ | refine go_exit0 ?_ | refine go_block ?_ | refine n_then ?_ | refine x_then ?_ | refine r_then ?_ | refine n_block ?_ | refine r_block ?_ | refine x_block ?_ | refine x_block_ne ?_ (by decide))
      | (with_reducible refine is_k ?_; refine go_k _ (by simp only [Ax.runK, Ax.runOps, Ax.run1, Ax.wantA, Ax.step, Ax.ev, Ax.evs, Ax.evo, Ax.evp, Ax.look, Ax.putE, Ax.keepE, Ax.argsE, Ax.extr, Ax.binV, Ax.intBin, Ax.unV, Ax.addOff, Ax.sizeN, Ax.mkV, Ax.okV, reduceIte, Nat.reduceEqDiff, Nat.reduceAdd, Nat.reduceLeDiff, Nat.reduceLT, Nat.reduceSub, Nat.reduceMul, reduceCtorEq, Int.reduceEq, Int.reduceLT, Int.reduceLE, Int.reduceAdd, Int.reduceSub, Int.reduceNeg, Int.reduceToNat, undef, Value.cells, axL, w1, w2]; rfl) rfl ?_)
      | (with_reducible refine cond_t ?_ ?_; · simp only [Ax.ev, Ax.look, reduceIte, Nat.reduceEqDiff])
      | (with_reducible refine cond_f ?_ ?_; · simp only [Ax.ev, Ax.look, reduceIte, Nat.reduceEqDiff])
      | (with_reducible refine is_rp ?_; first | refine r_postR rfl ?_ | refine r_postR (by simp only [Ax.result, Ax.resVs, Ax.resV, R32, Ax.look, sizeN, mkV, Nat.reduceEqDiff, reduceIte, axL, w1, w2]; rfl) ?_)
      | (with_reducible refine is_np ?_; first | refine n_postR rfl ?_ | refine n_postR (by simp only [Ax.result, Ax.resVs, Ax.resV, R32, Ax.look, sizeN, mkV, Nat.reduceEqDiff, reduceIte, axL, w1, w2]; rfl) ?_)
      | (first | with_reducible refine is_wd ?_ | with_reducible refine dk_wd ?_); refine go_dt _ (by simp only [Ax.runDK, Ax.runDT, Ax.runDops, Ax.run1d, Ax.recs, Ax.okPair, Ax.idsE, Ax.idsV, AOp.mems, AOp.isWrite, DRec.none, axD, Ax.runK, Ax.runOps, Ax.run1, Ax.wantA, Ax.step, Ax.ev, Ax.evs, Ax.evo, Ax.evp, Ax.look, Ax.putE, Ax.keepE, Ax.argsE, Ax.extr, Ax.binV, Ax.intBin, Ax.unV, Ax.addOff, Ax.sizeN, Ax.mkV, Ax.okV, reduceIte, Nat.reduceEqDiff, Nat.reduceAdd, Nat.reduceLeDiff, Nat.reduceLT, Nat.reduceSub, Nat.reduceMul, reduceCtorEq, Int.reduceEq, Int.reduceLT, Int.reduceLE, Int.reduceAdd, Int.reduceSub, Int.reduceNeg, Int.reduceToNat, undef, Value.cells, axL, w1, w2]; rfl) rfl ?_
      | (with_reducible first | refine end_reg (Ev.mono _ _) ?_ | refine end_dreg (Ev.mono _ _) ?_ | refine end_cond (Ev.mono _ _) ?_ | refine end_block (Ev.mono _ _) ?_ | refine end_loop (Ev.mono _ _) ?_))
    -- the lesser child
    refine go_unassoc (Ev.mono _ _) ?_
    refine go_cut (Ev.mono _ _) (fun ρ' S' => ∃ k2 : Nat, k2 < l1.length ∧ 0 < k2 ∧ (k2 - 1) / 2 = j ∧ (∀ c, c < l1.length → 0 < c → (c - 1) / 2 = j → ¬ ltI (ix l1 c) (ix l1 k2)) ∧ Keeps S1 S' [] ∧ ∃ r, ρ' = (4, .pointer (some ⟨bx, 0, none⟩)) :: (1, .int .i64 j) :: (0, .pointer (some ⟨h, 0, none⟩)) :: (5, .int .i64 k2) :: r) ?_ ?_
    · have w3 : IntKind.wrap .i64 ((k : Int) + 1) = ((k + 1 : Nat) : Int) := wrapI (n := (k : Int) + 1) (by unfold I64; omega)
      by_cases h2 : k + 1 < l1.length
      · have h2' : ((k + 1 : Nat) : Int) < (l1.length : Int) := by omega
        obtain ⟨b, a, e1, e2, e3, _⟩ := itAt (H.pick 4 [2, 0, 1, 3] rfl) h2
        obtain ⟨b', a', f1, f2, f3, _⟩ := itAt (H.pick 4 [2, 0, 1, 3] rfl) hkl
        refine go_d ?_
        repeat' (with_reducible first | refine go_assoc ?_ (Ev.mono _ _) | refine go_skip ?_ | refine go_block ?_ | refine end_dreg (Ev.mono _ _) ?_ | refine go_d ?_)
        refine go_dcall0 24 _ (by simp only [Ax.runDN, Ax.runDK, Ax.runDT, Ax.runDops, Ax.run1d, Ax.recs, Ax.okPair, Ax.idsE, Ax.idsV, AOp.mems, AOp.isWrite, DRec.none, axD, Ax.runK, Ax.runOps, Ax.run1, Ax.wantA, Ax.step, Ax.ev, Ax.evs, Ax.evo, Ax.evp, Ax.look, Ax.putE, Ax.keepE, Ax.argsE, Ax.extr, Ax.binV, Ax.intBin, Ax.unV, Ax.addOff, Ax.sizeN, Ax.mkV, Ax.okV, reduceIte, Nat.reduceEqDiff, Nat.reduceAdd, Nat.reduceLeDiff, Nat.reduceLT, Nat.reduceSub, Nat.reduceMul, reduceCtorEq, Int.reduceEq, Int.reduceLT, Int.reduceLE, Int.reduceAdd, Int.reduceSub, Int.reduceNeg, Int.reduceToNat, undef, Value.cells, axL, get1 hb0, w3, hlv, h2', e1, e3, f1, f3]; rfl) rfl rfl (by simp only [Ax.wantA, Ax.look, reduceIte, Nat.reduceEqDiff, bq_t, bq_f, Bool.not_true, Bool.not_false]; try rfl) rfl (by simp only [Ax.runK, Ax.runOps, Ax.run1, Ax.wantA, Ax.step, Ax.ev, Ax.evs, Ax.evo, Ax.evp, Ax.look, Ax.putE, Ax.keepE, Ax.argsE, Ax.extr, Ax.binV, Ax.intBin, Ax.unV, Ax.addOff, Ax.sizeN, Ax.mkV, Ax.okV, reduceIte, Nat.reduceEqDiff, Nat.reduceAdd, Nat.reduceLeDiff, Nat.reduceLT, Nat.reduceSub, Nat.reduceMul, reduceCtorEq, Int.reduceEq, Int.reduceLT, Int.reduceLE, Int.reduceAdd, Int.reduceSub, Int.reduceNeg, Int.reduceToNat, undef, Value.cells, axL, get1 hb0, w3, hlv, h2', e1, e3, f1, f3]; try rfl) (by simp only [hidden, AS.roAt, AObj.ro, List.filter_cons, List.filter_nil, Nat.sub_self, List.range'_zero, Ax.runDK, Ax.runDT, Ax.runDops, Ax.run1d, Ax.recs, Ax.okPair, Ax.idsE, Ax.idsV, AOp.mems, AOp.isWrite, DRec.none, axD, Ax.runK, Ax.runOps, Ax.run1, Ax.wantA, Ax.step, Ax.ev, Ax.evs, Ax.evo, Ax.evp, Ax.look, Ax.putE, Ax.keepE, Ax.argsE, Ax.extr, Ax.binV, Ax.intBin, Ax.unV, Ax.addOff, Ax.sizeN, Ax.mkV, Ax.okV, reduceIte, Nat.reduceEqDiff, Nat.reduceAdd, Nat.reduceLeDiff, Nat.reduceLT, Nat.reduceSub, Nat.reduceMul, reduceCtorEq, Int.reduceEq, Int.reduceLT, Int.reduceLE, Int.reduceAdd, Int.reduceSub, Int.reduceNeg, Int.reduceToNat, undef, Value.cells, axL, get1 hb0, w3, hlv, h2', e1, e3, f1, f3]; try rfl) ?_
        refine ahead_spec X l1[k + 1] l1[k] (fun S2 hk2 => ?_)
        repeat' (first
      | (with_reducible first | refine go_assoc ?_ (Ev.mono _ _) | refine go_skip ?_ | refine go_fin ?_ | refine go_ret ?_ | refine go_ret0 ?_ | refine go_exit ?_ | refine go_exit0 ?_ | refine go_block ?_ | refine n_then ?_ | refine x_then ?_ | refine r_then ?_ | refine n_block ?_ | refine r_block ?_ | refine x_block ?_ | refine x_block_ne ?_ (by decide))
      | (with_reducible refine is_k ?_; refine go_k _ (by simp only [Ax.runK, Ax.runOps, Ax.run1, Ax.wantA, Ax.step, Ax.ev, Ax.evs, Ax.evo, Ax.evp, Ax.look, Ax.putE, Ax.keepE, Ax.argsE, Ax.extr, Ax.binV, Ax.intBin, Ax.unV, Ax.addOff, Ax.sizeN, Ax.mkV, Ax.okV, reduceIte, Nat.reduceEqDiff, Nat.reduceAdd, Nat.reduceLeDiff, Nat.reduceLT, Nat.reduceSub, Nat.reduceMul, reduceCtorEq, Int.reduceEq, Int.reduceLT, Int.reduceLE, Int.reduceAdd, Int.reduceSub, Int.reduceNeg, Int.reduceToNat, undef, Value.cells, axL, h2']; rfl) rfl ?_)
      | (with_reducible refine cond_t ?_ ?_; · simp only [Ax.ev, Ax.look, reduceIte, Nat.reduceEqDiff])
      | (with_reducible refine cond_f ?_ ?_; · simp only [Ax.ev, Ax.look, reduceIte, Nat.reduceEqDiff])
      | (with_reducible refine is_rp ?_; first | refine r_postR rfl ?_ | refine r_postR (by simp only [Ax.result, Ax.resVs, Ax.resV, R32, Ax.look, sizeN, mkV, Nat.reduceEqDiff, reduceIte, axL, h2']; rfl) ?_)
      | (with_reducible refine is_np ?_; first | refine n_postR rfl ?_ | refine n_postR (by simp only [Ax.result, Ax.resVs, Ax.resV, R32, Ax.look, sizeN, mkV, Nat.reduceEqDiff, reduceIte, axL, h2']; rfl) ?_)
      | (first | with_reducible refine is_wd ?_ | with_reducible refine dk_wd ?_); refine go_dt _ (by simp only [Ax.runDK, Ax.runDT, Ax.runDops, Ax.run1d, Ax.recs, Ax.okPair, Ax.idsE, Ax.idsV, AOp.mems, AOp.isWrite, DRec.none, axD, Ax.runK, Ax.runOps, Ax.run1, Ax.wantA, Ax.step, Ax.ev, Ax.evs, Ax.evo, Ax.evp, Ax.look, Ax.putE, Ax.keepE, Ax.argsE, Ax.extr, Ax.binV, Ax.intBin, Ax.unV, Ax.addOff, Ax.sizeN, Ax.mkV, Ax.okV, reduceIte, Nat.reduceEqDiff, Nat.reduceAdd, Nat.reduceLeDiff, Nat.reduceLT, Nat.reduceSub, Nat.reduceMul, reduceCtorEq, Int.reduceEq, Int.reduceLT, Int.reduceLE, Int.reduceAdd, Int.reduceSub, Int.reduceNeg, Int.reduceToNat, undef, Value.cells, axL, h2']; rfl) rfl ?_
      | (with_reducible first | refine end_reg (Ev.mono _ _) ?_ | refine end_dreg (Ev.mono _ _) ?_ | refine end_cond (Ev.mono _ _) ?_ | refine end_block (Ev.mono _ _) ?_ | refine end_loop (Ev.mono _ _) ?_))
        refine cond_d rfl (fun hl => ?_) (fun hl => ?_)
        · rw [ahead_lt] at hl
          repeat' (first
      | (with_reducible first | refine go_assoc ?_ (Ev.mono _ _) | refine go_skip ?_ | refine go_fin ?_ | refine go_ret ?_ | refine go_ret0 ?_ | refine go_exit ?_ | refine go_exit0 ?_ | refine go_block ?_ | refine n_then ?_ | refine x_then ?_ | refine r_then ?_ | refine n_block ?_ | refine r_block ?_ | refine x_block ?_ | refine x_block_ne ?_ (by decide))
      | (with_reducible refine is_k ?_; refine go_k _ (by simp only [Ax.runK, Ax.runOps, Ax.run1, Ax.wantA, Ax.step, Ax.ev, Ax.evs, Ax.evo, Ax.evp, Ax.look, Ax.putE, Ax.keepE, Ax.argsE, Ax.extr, Ax.binV, Ax.intBin, Ax.unV, Ax.addOff, Ax.sizeN, Ax.mkV, Ax.okV, reduceIte, Nat.reduceEqDiff, Nat.reduceAdd, Nat.reduceLeDiff, Nat.reduceLT, Nat.reduceSub, Nat.reduceMul, reduceCtorEq, Int.reduceEq, Int.reduceLT, Int.reduceLE, Int.reduceAdd, Int.reduceSub, Int.reduceNeg, Int.reduceToNat, undef, Value.cells, axL, w3]; rfl) rfl ?_)
      | (with_reducible refine cond_t ?_ ?_; · simp only [Ax.ev, Ax.look, reduceIte, Nat.reduceEqDiff])
      | (with_reducible refine cond_f ?_ ?_; · simp only [Ax.ev, Ax.look, reduceIte, Nat.reduceEqDiff])
      | (with_reducible refine is_rp ?_; first | refine r_postR rfl ?_ | refine r_postR (by simp only [Ax.result, Ax.resVs, Ax.resV, R32, Ax.look, sizeN, mkV, Nat.reduceEqDiff, reduceIte, axL, w3]; rfl) ?_)
      | (with_reducible refine is_np ?_; first | refine n_postR rfl ?_ | refine n_postR (by simp only [Ax.result, Ax.resVs, Ax.resV, R32, Ax.look, sizeN, mkV, Nat.reduceEqDiff, reduceIte, axL, w3]; rfl) ?_)
      | (first | with_reducible refine is_wd ?_ | with_reducible refine dk_wd ?_); refine go_dt _ (by simp only [Ax.runDK, Ax.runDT, Ax.runDops, Ax.run1d, Ax.recs, Ax.okPair, Ax.idsE, Ax.idsV, AOp.mems, AOp.isWrite, DRec.none, axD, Ax.runK, Ax.runOps, Ax.run1, Ax.wantA, Ax.step, Ax.ev, Ax.evs, Ax.evo, Ax.evp, Ax.look, Ax.putE, Ax.keepE, Ax.argsE, Ax.extr, Ax.binV, Ax.intBin, Ax.unV, Ax.addOff, Ax.sizeN, Ax.mkV, Ax.okV, reduceIte, Nat.reduceEqDiff, Nat.reduceAdd, Nat.reduceLeDiff, Nat.reduceLT, Nat.reduceSub, Nat.reduceMul, reduceCtorEq, Int.reduceEq, Int.reduceLT, Int.reduceLE, Int.reduceAdd, Int.reduceSub, Int.reduceNeg, Int.reduceToNat, undef, Value.cells, axL, w3]; rfl) rfl ?_
      | (with_reducible first | refine end_reg (Ev.mono _ _) ?_ | refine end_dreg (Ev.mono _ _) ?_ | refine end_cond (Ev.mono _ _) ?_ | refine end_block (Ev.mono _ _) ?_ | refine end_loop (Ev.mono _ _) ?_))
          refine ⟨k + 1, h2, by omega, by omega, fun c hc h0 hcj => ?_, hk2, _, rfl⟩
          rw [ix_get h2]
          have : c = k ∨ c = k + 1 := by omega
          rcases this with rfl | rfl
          · rw [ix_get hkl]; unfold ltI at *; omega
          · rw [ix_get h2]; unfold ltI; omega
        · rw [ahead_lt] at hl
          repeat' (first
      | (with_reducible first | refine go_assoc ?_ (Ev.mono _ _) | refine go_skip ?_ | refine go_fin ?_ | refine go_ret ?_ | refine go_ret0 ?_ | refine go_exit ?_ | refine go_exit0 ?_ | refine go_block ?_ | refine n_then ?_ | refine x_then ?_ | refine r_then ?_ | refine n_block ?_ | refine r_block ?_ | refine x_block ?_ | refine x_block_ne ?_ (by decide))
      | (with_reducible refine is_k ?_; refine go_k _ (by simp only [Ax.runK, Ax.runOps, Ax.run1, Ax.wantA, Ax.step, Ax.ev, Ax.evs, Ax.evo, Ax.evp, Ax.look, Ax.putE, Ax.keepE, Ax.argsE, Ax.extr, Ax.binV, Ax.intBin, Ax.unV, Ax.addOff, Ax.sizeN, Ax.mkV, Ax.okV, reduceIte, Nat.reduceEqDiff, Nat.reduceAdd, Nat.reduceLeDiff, Nat.reduceLT, Nat.reduceSub, Nat.reduceMul, reduceCtorEq, Int.reduceEq, Int.reduceLT, Int.reduceLE, Int.reduceAdd, Int.reduceSub, Int.reduceNeg, Int.reduceToNat, undef, Value.cells, axL]; rfl) rfl ?_)
      | (with_reducible refine cond_t ?_ ?_; · simp only [Ax.ev, Ax.look, reduceIte, Nat.reduceEqDiff])
      | (with_reducible refine cond_f ?_ ?_; · simp only [Ax.ev, Ax.look, reduceIte, Nat.reduceEqDiff])
      | (with_reducible refine is_rp ?_; first | refine r_postR rfl ?_ | refine r_postR (by simp only [Ax.result, Ax.resVs, Ax.resV, R32, Ax.look, sizeN, mkV, Nat.reduceEqDiff, reduceIte, axL]; rfl) ?_)
      | (with_reducible refine is_np ?_; first | refine n_postR rfl ?_ | refine n_postR (by simp only [Ax.result, Ax.resVs, Ax.resV, R32, Ax.look, sizeN, mkV, Nat.reduceEqDiff, reduceIte, axL]; rfl) ?_)
      | (first | with_reducible refine is_wd ?_ | with_reducible refine dk_wd ?_); refine go_dt _ (by simp only [Ax.runDK, Ax.runDT, Ax.runDops, Ax.run1d, Ax.recs, Ax.okPair, Ax.idsE, Ax.idsV, AOp.mems, AOp.isWrite, DRec.none, axD, Ax.runK, Ax.runOps, Ax.run1, Ax.wantA, Ax.step, Ax.ev, Ax.evs, Ax.evo, Ax.evp, Ax.look, Ax.putE, Ax.keepE, Ax.argsE, Ax.extr, Ax.binV, Ax.intBin, Ax.unV, Ax.addOff, Ax.sizeN, Ax.mkV, Ax.okV, reduceIte, Nat.reduceEqDiff, Nat.reduceAdd, Nat.reduceLeDiff, Nat.reduceLT, Nat.reduceSub, Nat.reduceMul, reduceCtorEq, Int.reduceEq, Int.reduceLT, Int.reduceLE, Int.reduceAdd, Int.reduceSub, Int.reduceNeg, Int.reduceToNat, undef, Value.cells, axL]; rfl) rfl ?_
      | (with_reducible first | refine end_reg (Ev.mono _ _) ?_ | refine end_dreg (Ev.mono _ _) ?_ | refine end_cond (Ev.mono _ _) ?_ | refine end_block (Ev.mono _ _) ?_ | refine end_loop (Ev.mono _ _) ?_))
          refine ⟨k, hkl, by omega, by omega, fun c hc h0 hcj => ?_, hk2, _, rfl⟩
          rw [ix_get hkl]
          have : c = k ∨ c = k + 1 := by omega
          rcases this with rfl | rfl
          · rw [ix_get hkl]; unfold ltI; omega
          · rw [ix_get h2]; exact hl
      · have h2' : ¬ ((k + 1 : Nat) : Int) < (l1.length : Int) := by omega
        repeat' (first
      | (with_reducible first | refine go_assoc ?_ (Ev.mono _ _) | refine go_skip ?_ | refine go_fin ?_ | refine go_ret ?_ | refine go_ret0 ?_ | refine go_exit ?_ | refine go_exit0 ?_ | refine go_block ?_ | refine n_then ?_ | refine x_then ?_ | refine r_then ?_ | refine n_block ?_ | refine r_block ?_ | refine x_block ?_ | refine x_block_ne ?_ (by decide))
      | (with_reducible refine is_k ?_; refine go_k _ (by simp only [Ax.runK, Ax.runOps, Ax.run1, Ax.wantA, Ax.step, Ax.ev, Ax.evs, Ax.evo, Ax.evp, Ax.look, Ax.putE, Ax.keepE, Ax.argsE, Ax.extr, Ax.binV, Ax.intBin, Ax.unV, Ax.addOff, Ax.sizeN, Ax.mkV, Ax.okV, reduceIte, Nat.reduceEqDiff, Nat.reduceAdd, Nat.reduceLeDiff, Nat.reduceLT, Nat.reduceSub, Nat.reduceMul, reduceCtorEq, Int.reduceEq, Int.reduceLT, Int.reduceLE, Int.reduceAdd, Int.reduceSub, Int.reduceNeg, Int.reduceToNat, undef, Value.cells, axL, get1 hb0, w3, hlv, h2']; rfl) rfl ?_)
      | (with_reducible refine cond_t ?_ ?_; · simp only [Ax.ev, Ax.look, reduceIte, Nat.reduceEqDiff])
      | (with_reducible refine cond_f ?_ ?_; · simp only [Ax.ev, Ax.look, reduceIte, Nat.reduceEqDiff])
      | (with_reducible refine is_rp ?_; first | refine r_postR rfl ?_ | refine r_postR (by simp only [Ax.result, Ax.resVs, Ax.resV, R32, Ax.look, sizeN, mkV, Nat.reduceEqDiff, reduceIte, axL, get1 hb0, w3, hlv, h2']; rfl) ?_)
      | (with_reducible refine is_np ?_; first | refine n_postR rfl ?_ | refine n_postR (by simp only [Ax.result, Ax.resVs, Ax.resV, R32, Ax.look, sizeN, mkV, Nat.reduceEqDiff, reduceIte, axL, get1 hb0, w3, hlv, h2']; rfl) ?_)
      | (first | with_reducible refine is_wd ?_ | with_reducible refine dk_wd ?_); refine go_dt _ (by simp only [Ax.runDK, Ax.runDT, Ax.runDops, Ax.run1d, Ax.recs, Ax.okPair, Ax.idsE, Ax.idsV, AOp.mems, AOp.isWrite, DRec.none, axD, Ax.runK, Ax.runOps, Ax.run1, Ax.wantA, Ax.step, Ax.ev, Ax.evs, Ax.evo, Ax.evp, Ax.look, Ax.putE, Ax.keepE, Ax.argsE, Ax.extr, Ax.binV, Ax.intBin, Ax.unV, Ax.addOff, Ax.sizeN, Ax.mkV, Ax.okV, reduceIte, Nat.reduceEqDiff, Nat.reduceAdd, Nat.reduceLeDiff, Nat.reduceLT, Nat.reduceSub, Nat.reduceMul, reduceCtorEq, Int.reduceEq, Int.reduceLT, Int.reduceLE, Int.reduceAdd, Int.reduceSub, Int.reduceNeg, Int.reduceToNat, undef, Value.cells, axL, get1 hb0, w3, hlv, h2']; rfl) rfl ?_
      | (with_reducible first | refine end_reg (Ev.mono _ _) ?_ | refine end_dreg (Ev.mono _ _) ?_ | refine end_cond (Ev.mono _ _) ?_ | refine end_block (Ev.mono _ _) ?_ | refine end_loop (Ev.mono _ _) ?_))
        refine ⟨k, hkl, by omega, by omega, fun c hc h0 hcj => ?_, Keeps.refl _ _, _, rfl⟩
        have : c = k := by omega
        subst this
        unfold ltI; omega
    rintro ρ' S2 ⟨k2, hk2l, hk20, hk2j, hmin, hk2, r, rfl⟩
    have H2 := H.keep hk2
    have hbx2 := H2.pget
    have hb2 := (H2.pick 4 [1] rfl).pget
    obtain ⟨b, a, e1, e2, e3, _⟩ := itAt (H2.pick 4 [2, 0, 1, 3] rfl) hk2l
    refine go_assoc ?_ (Ev.mono _ _)
    refine go_d ?_
    repeat' (with_reducible first | refine go_assoc ?_ (Ev.mono _ _) | refine go_skip ?_ | refine go_block ?_ | refine end_dreg (Ev.mono _ _) ?_ | refine go_d ?_)
    refine go_dcall0 8 _ (by simp only [Ax.runDN, Ax.runDK, Ax.runDT, Ax.runDops, Ax.run1d, Ax.recs, Ax.okPair, Ax.idsE, Ax.idsV, AOp.mems, AOp.isWrite, DRec.none, axD, Ax.runK, Ax.runOps, Ax.run1, Ax.wantA, Ax.step, Ax.ev, Ax.evs, Ax.evo, Ax.evp, Ax.look, Ax.putE, Ax.keepE, Ax.argsE, Ax.extr, Ax.binV, Ax.intBin, Ax.unV, Ax.addOff, Ax.sizeN, Ax.mkV, Ax.okV, reduceIte, Nat.reduceEqDiff, Nat.reduceAdd, Nat.reduceLeDiff, Nat.reduceLT, Nat.reduceSub, Nat.reduceMul, reduceCtorEq, Int.reduceEq, Int.reduceLT, Int.reduceLE, Int.reduceAdd, Int.reduceSub, Int.reduceNeg, Int.reduceToNat, undef, Value.cells, axL, get1 hb2, getAll (n := 3) hbx2 rfl, e1, e3]; rfl) rfl rfl (by simp only [Ax.wantA, Ax.look, reduceIte, Nat.reduceEqDiff, bq_t, bq_f, Bool.not_true, Bool.not_false]; try rfl) rfl (by simp only [Ax.runK, Ax.runOps, Ax.run1, Ax.wantA, Ax.step, Ax.ev, Ax.evs, Ax.evo, Ax.evp, Ax.look, Ax.putE, Ax.keepE, Ax.argsE, Ax.extr, Ax.binV, Ax.intBin, Ax.unV, Ax.addOff, Ax.sizeN, Ax.mkV, Ax.okV, reduceIte, Nat.reduceEqDiff, Nat.reduceAdd, Nat.reduceLeDiff, Nat.reduceLT, Nat.reduceSub, Nat.reduceMul, reduceCtorEq, Int.reduceEq, Int.reduceLT, Int.reduceLE, Int.reduceAdd, Int.reduceSub, Int.reduceNeg, Int.reduceToNat, undef, Value.cells, axL, get1 hb2, getAll (n := 3) hbx2 rfl, e1, e3]; try rfl) (by simp only [hidden, AS.roAt, AObj.ro, List.filter_cons, List.filter_nil, Nat.sub_self, List.range'_zero, Ax.runDK, Ax.runDT, Ax.runDops, Ax.run1d, Ax.recs, Ax.okPair, Ax.idsE, Ax.idsV, AOp.mems, AOp.isWrite, DRec.none, axD, Ax.runK, Ax.runOps, Ax.run1, Ax.wantA, Ax.step, Ax.ev, Ax.evs, Ax.evo, Ax.evp, Ax.look, Ax.putE, Ax.keepE, Ax.argsE, Ax.extr, Ax.binV, Ax.intBin, Ax.unV, Ax.addOff, Ax.sizeN, Ax.mkV, Ax.okV, reduceIte, Nat.reduceEqDiff, Nat.reduceAdd, Nat.reduceLeDiff, Nat.reduceLT, Nat.reduceSub, Nat.reduceMul, reduceCtorEq, Int.reduceEq, Int.reduceLT, Int.reduceLE, Int.reduceAdd, Int.reduceSub, Int.reduceNeg, Int.reduceToNat, undef, Value.cells, axL, get1 hb2, getAll (n := 3) hbx2 rfl, e1, e3]; try rfl) ?_
    refine ahead_spec X x l1[k2] (fun S3 hk3 => ?_)
    have H3 := H2.keep hk3
    have hbx3 := H3.pget
    have hb3 := (H3.pick 4 [1] rfl).pget
    obtain ⟨b, a, e1, e2, e3, _⟩ := itAt (H3.pick 4 [2, 0, 1, 3] rfl) hk2l
    repeat' (first
      | (with_reducible first | refine go_assoc ?_ (Ev.mono _ _) | refine go_skip ?_ | refine go_fin ?_ | refine go_ret ?_ | refine go_ret0 ?_ | refine go_exit ?_ | refine go_exit0 ?_ | refine go_block ?_ | refine n_then ?_ | refine x_then ?_ | refine r_then ?_ | refine n_block ?_ | refine r_block ?_ | refine x_block ?_ | refine x_block_ne ?_ (by decide))
      | (with_reducible refine is_k ?_; refine go_k _ (by simp only [Ax.runK, Ax.runOps, Ax.run1, Ax.wantA, Ax.step, Ax.ev, Ax.evs, Ax.evo, Ax.evp, Ax.look, Ax.putE, Ax.keepE, Ax.argsE, Ax.extr, Ax.binV, Ax.intBin, Ax.unV, Ax.addOff, Ax.sizeN, Ax.mkV, Ax.okV, reduceIte, Nat.reduceEqDiff, Nat.reduceAdd, Nat.reduceLeDiff, Nat.reduceLT, Nat.reduceSub, Nat.reduceMul, reduceCtorEq, Int.reduceEq, Int.reduceLT, Int.reduceLE, Int.reduceAdd, Int.reduceSub, Int.reduceNeg, Int.reduceToNat, undef, Value.cells, axL]; rfl) rfl ?_)
      | (with_reducible refine cond_t ?_ ?_; · simp only [Ax.ev, Ax.look, reduceIte, Nat.reduceEqDiff])
      | (with_reducible refine cond_f ?_ ?_; · simp only [Ax.ev, Ax.look, reduceIte, Nat.reduceEqDiff])
      | (with_reducible refine is_rp ?_; first | refine r_postR rfl ?_ | refine r_postR (by simp only [Ax.result, Ax.resVs, Ax.resV, R32, Ax.look, sizeN, mkV, Nat.reduceEqDiff, reduceIte, axL]; rfl) ?_)
      | (with_reducible refine is_np ?_; first | refine n_postR rfl ?_ | refine n_postR (by simp only [Ax.result, Ax.resVs, Ax.resV, R32, Ax.look, sizeN, mkV, Nat.reduceEqDiff, reduceIte, axL]; rfl) ?_)
      | (first | with_reducible refine is_wd ?_ | with_reducible refine dk_wd ?_); refine go_dt _ (by simp only [Ax.runDK, Ax.runDT, Ax.runDops, Ax.run1d, Ax.recs, Ax.okPair, Ax.idsE, Ax.idsV, AOp.mems, AOp.isWrite, DRec.none, axD, Ax.runK, Ax.runOps, Ax.run1, Ax.wantA, Ax.step, Ax.ev, Ax.evs, Ax.evo, Ax.evp, Ax.look, Ax.putE, Ax.keepE, Ax.argsE, Ax.extr, Ax.binV, Ax.intBin, Ax.unV, Ax.addOff, Ax.sizeN, Ax.mkV, Ax.okV, reduceIte, Nat.reduceEqDiff, Nat.reduceAdd, Nat.reduceLeDiff, Nat.reduceLT, Nat.reduceSub, Nat.reduceMul, reduceCtorEq, Int.reduceEq, Int.reduceLT, Int.reduceLE, Int.reduceAdd, Int.reduceSub, Int.reduceNeg, Int.reduceToNat, undef, Value.cells, axL]; rfl) rfl ?_
      | (with_reducible first | refine end_reg (Ev.mono _ _) ?_ | refine end_dreg (Ev.mono _ _) ?_ | refine end_cond (Ev.mono _ _) ?_ | refine end_block (Ev.mono _ _) ?_ | refine end_loop (Ev.mono _ _) ?_))
    refine cond_d rfl (fun hl => ?_) (fun hl => ?_)
    · rw [ahead_lt] at hl
      repeat' (first
      | (with_reducible first | refine go_assoc ?_ (Ev.mono _ _) | refine go_skip ?_ | refine go_fin ?_ | refine go_ret ?_ | refine go_ret0 ?_ | refine go_exit ?_ | refine go_exit0 ?_ | refine go_block ?_ | refine n_then ?_ | refine x_then ?_ | refine r_then ?_ | refine n_block ?_ | refine r_block ?_ | refine x_block ?_ | refine x_block_ne ?_ (by decide))
      | (with_reducible refine is_k ?_; refine go_k _ (by simp only [Ax.runK, Ax.runOps, Ax.run1, Ax.wantA, Ax.step, Ax.ev, Ax.evs, Ax.evo, Ax.evp, Ax.look, Ax.putE, Ax.keepE, Ax.argsE, Ax.extr, Ax.binV, Ax.intBin, Ax.unV, Ax.addOff, Ax.sizeN, Ax.mkV, Ax.okV, reduceIte, Nat.reduceEqDiff, Nat.reduceAdd, Nat.reduceLeDiff, Nat.reduceLT, Nat.reduceSub, Nat.reduceMul, reduceCtorEq, Int.reduceEq, Int.reduceLT, Int.reduceLE, Int.reduceAdd, Int.reduceSub, Int.reduceNeg, Int.reduceToNat, undef, Value.cells, axL]; rfl) rfl ?_)
      | (with_reducible refine cond_t ?_ ?_; · simp only [Ax.ev, Ax.look, reduceIte, Nat.reduceEqDiff])
      | (with_reducible refine cond_f ?_ ?_; · simp only [Ax.ev, Ax.look, reduceIte, Nat.reduceEqDiff])
      | (with_reducible refine is_rp ?_; first | refine r_postR rfl ?_ | refine r_postR (by simp only [Ax.result, Ax.resVs, Ax.resV, R32, Ax.look, sizeN, mkV, Nat.reduceEqDiff, reduceIte, axL]; rfl) ?_)
      | (with_reducible refine is_np ?_; first | refine n_postR rfl ?_ | refine n_postR (by simp only [Ax.result, Ax.resVs, Ax.resV, R32, Ax.look, sizeN, mkV, Nat.reduceEqDiff, reduceIte, axL]; rfl) ?_)
      | (first | with_reducible refine is_wd ?_ | with_reducible refine dk_wd ?_); refine go_dt _ (by simp only [Ax.runDK, Ax.runDT, Ax.runDops, Ax.run1d, Ax.recs, Ax.okPair, Ax.idsE, Ax.idsV, AOp.mems, AOp.isWrite, DRec.none, axD, Ax.runK, Ax.runOps, Ax.run1, Ax.wantA, Ax.step, Ax.ev, Ax.evs, Ax.evo, Ax.evp, Ax.look, Ax.putE, Ax.keepE, Ax.argsE, Ax.extr, Ax.binV, Ax.intBin, Ax.unV, Ax.addOff, Ax.sizeN, Ax.mkV, Ax.okV, reduceIte, Nat.reduceEqDiff, Nat.reduceAdd, Nat.reduceLeDiff, Nat.reduceLT, Nat.reduceSub, Nat.reduceMul, reduceCtorEq, Int.reduceEq, Int.reduceLT, Int.reduceLE, Int.reduceAdd, Int.reduceSub, Int.reduceNeg, Int.reduceToNat, undef, Value.cells, axL]; rfl) rfl ?_
      | (with_reducible first | refine end_reg (Ev.mono _ _) ?_ | refine end_dreg (Ev.mono _ _) ?_ | refine end_cond (Ev.mono _ _) ?_ | refine end_block (Ev.mono _ _) ?_ | refine end_loop (Ev.mono _ _) ?_))
      repeat' (with_reducible first | refine go_assoc ?_ (Ev.mono _ _) | refine go_skip ?_ | refine go_block ?_ | refine end_reg (Ev.mono _ _) ?_)
      refine go_callN 3 _ (by simp only [Ax.runN, Ax.runK, Ax.runOps, Ax.run1, Ax.wantA, Ax.step, Ax.ev, Ax.evs, Ax.evo, Ax.evp, Ax.look, Ax.putE, Ax.keepE, Ax.argsE, Ax.extr, Ax.binV, Ax.intBin, Ax.unV, Ax.addOff, Ax.sizeN, Ax.mkV, Ax.okV, reduceIte, Nat.reduceEqDiff, Nat.reduceAdd, Nat.reduceLeDiff, Nat.reduceLT, Nat.reduceSub, Nat.reduceMul, reduceCtorEq, Int.reduceEq, Int.reduceLT, Int.reduceLE, Int.reduceAdd, Int.reduceSub, Int.reduceNeg, Int.reduceToNat, undef, Value.cells, axL, getAll (n := 3) hbx3 rfl]; rfl) rfl rfl (by simp only [Ax.wantA, Ax.look, reduceIte, Nat.reduceEqDiff, bq_t, bq_f, Bool.not_true, Bool.not_false]; try rfl) rfl (by simp only [Ax.runK, Ax.runOps, Ax.run1, Ax.wantA, Ax.step, Ax.ev, Ax.evs, Ax.evo, Ax.evp, Ax.look, Ax.putE, Ax.keepE, Ax.argsE, Ax.extr, Ax.binV, Ax.intBin, Ax.unV, Ax.addOff, Ax.sizeN, Ax.mkV, Ax.okV, reduceIte, Nat.reduceEqDiff, Nat.reduceAdd, Nat.reduceLeDiff, Nat.reduceLT, Nat.reduceSub, Nat.reduceMul, reduceCtorEq, Int.reduceEq, Int.reduceLT, Int.reduceLE, Int.reduceAdd, Int.reduceSub, Int.reduceNeg, Int.reduceToNat, undef, Value.cells, axL, getAll (n := 3) hbx3 rfl]; try rfl) ?_
      refine set_spec X (F := pts bx _ :: F) (H3.pick 4 [1, 2, 3, 0] rfl) hjl x (fun S4 H4 => ?_)
      repeat' (first
      | (with_reducible first | refine go_assoc ?_ (Ev.mono _ _) | refine go_skip ?_ | refine go_fin ?_ | refine go_ret ?_ | refine go_ret0 ?_ | refine go_exit ?_ | refine go_exit0 ?_ | refine go_block ?_ | refine n_then ?_ | refine x_then ?_ | refine r_then ?_ | refine n_block ?_ | refine r_block ?_ | refine x_block ?_ | refine x_block_ne ?_ (by decide))
      | (with_reducible refine is_k ?_; refine go_k _ (by simp only [Ax.runK, Ax.runOps, Ax.run1, Ax.wantA, Ax.step, Ax.ev, Ax.evs, Ax.evo, Ax.evp, Ax.look, Ax.putE, Ax.keepE, Ax.argsE, Ax.extr, Ax.binV, Ax.intBin, Ax.unV, Ax.addOff, Ax.sizeN, Ax.mkV, Ax.okV, reduceIte, Nat.reduceEqDiff, Nat.reduceAdd, Nat.reduceLeDiff, Nat.reduceLT, Nat.reduceSub, Nat.reduceMul, reduceCtorEq, Int.reduceEq, Int.reduceLT, Int.reduceLE, Int.reduceAdd, Int.reduceSub, Int.reduceNeg, Int.reduceToNat, undef, Value.cells, axL]; rfl) rfl ?_)
      | (with_reducible refine cond_t ?_ ?_; · simp only [Ax.ev, Ax.look, reduceIte, Nat.reduceEqDiff])
      | (with_reducible refine cond_f ?_ ?_; · simp only [Ax.ev, Ax.look, reduceIte, Nat.reduceEqDiff])
      | (with_reducible refine is_rp ?_; first | refine r_postR rfl ?_ | refine r_postR (by simp only [Ax.result, Ax.resVs, Ax.resV, R32, Ax.look, sizeN, mkV, Nat.reduceEqDiff, reduceIte, axL]; rfl) ?_)
      | (with_reducible refine is_np ?_; first | refine n_postR rfl ?_ | refine n_postR (by simp only [Ax.result, Ax.resVs, Ax.resV, R32, Ax.look, sizeN, mkV, Nat.reduceEqDiff, reduceIte, axL]; rfl) ?_)
      | (first | with_reducible refine is_wd ?_ | with_reducible refine dk_wd ?_); refine go_dt _ (by simp only [Ax.runDK, Ax.runDT, Ax.runDops, Ax.run1d, Ax.recs, Ax.okPair, Ax.idsE, Ax.idsV, AOp.mems, AOp.isWrite, DRec.none, axD, Ax.runK, Ax.runOps, Ax.run1, Ax.wantA, Ax.step, Ax.ev, Ax.evs, Ax.evo, Ax.evp, Ax.look, Ax.putE, Ax.keepE, Ax.argsE, Ax.extr, Ax.binV, Ax.intBin, Ax.unV, Ax.addOff, Ax.sizeN, Ax.mkV, Ax.okV, reduceIte, Nat.reduceEqDiff, Nat.reduceAdd, Nat.reduceLeDiff, Nat.reduceLT, Nat.reduceSub, Nat.reduceMul, reduceCtorEq, Int.reduceEq, Int.reduceLT, Int.reduceLE, Int.reduceAdd, Int.reduceSub, Int.reduceNeg, Int.reduceToNat, undef, Value.cells, axL]; rfl) rfl ?_
      | (with_reducible first | refine end_reg (Ev.mono _ _) ?_ | refine end_dreg (Ev.mono _ _) ?_ | refine end_cond (Ev.mono _ _) ?_ | refine end_block (Ev.mono _ _) ?_ | refine end_loop (Ev.mono _ _) ?_))
      refine hq _ _ _ (H4.pick 4 [0, 1, 2] rfl) (I.fin (fun c hc h0 hcj => ?_))
      have h5 := hmin c hc h0 hcj
      rw [ix_get hk2l] at h5
      unfold ltI at *; omega
    · rw [ahead_lt] at hl
      refine go_skip ?_
      repeat' (with_reducible first | refine go_assoc ?_ (Ev.mono _ _) | refine go_skip ?_ | refine go_block ?_ | refine end_reg (Ev.mono _ _) ?_)
      refine go_callN 9 _ (by simp only [Ax.runN, Ax.runK, Ax.runOps, Ax.run1, Ax.wantA, Ax.step, Ax.ev, Ax.evs, Ax.evo, Ax.evp, Ax.look, Ax.putE, Ax.keepE, Ax.argsE, Ax.extr, Ax.binV, Ax.intBin, Ax.unV, Ax.addOff, Ax.sizeN, Ax.mkV, Ax.okV, reduceIte, Nat.reduceEqDiff, Nat.reduceAdd, Nat.reduceLeDiff, Nat.reduceLT, Nat.reduceSub, Nat.reduceMul, reduceCtorEq, Int.reduceEq, Int.reduceLT, Int.reduceLE, Int.reduceAdd, Int.reduceSub, Int.reduceNeg, Int.reduceToNat, undef, Value.cells, axL, get1 hb3, e1, e3]; rfl) rfl rfl (by simp only [Ax.wantA, Ax.look, reduceIte, Nat.reduceEqDiff, bq_t, bq_f, Bool.not_true, Bool.not_false]; try rfl) rfl (by simp only [Ax.runK, Ax.runOps, Ax.run1, Ax.wantA, Ax.step, Ax.ev, Ax.evs, Ax.evo, Ax.evp, Ax.look, Ax.putE, Ax.keepE, Ax.argsE, Ax.extr, Ax.binV, Ax.intBin, Ax.unV, Ax.addOff, Ax.sizeN, Ax.mkV, Ax.okV, reduceIte, Nat.reduceEqDiff, Nat.reduceAdd, Nat.reduceLeDiff, Nat.reduceLT, Nat.reduceSub, Nat.reduceMul, reduceCtorEq, Int.reduceEq, Int.reduceLT, Int.reduceLE, Int.reduceAdd, Int.reduceSub, Int.reduceNeg, Int.reduceToNat, undef, Value.cells, axL, get1 hb3, e1, e3]; try rfl) ?_
      refine set_spec X (F := pts bx _ :: F) (H3.pick 4 [1, 2, 3, 0] rfl) hjl l1[k2] (fun S4 H4 => ?_)
      repeat' (first
      | (with_reducible first | refine go_assoc ?_ (Ev.mono _ _) | refine go_skip ?_ | refine go_fin ?_ | refine go_ret ?_ | refine go_ret0 ?_ | refine go_exit ?_ | refine go_exit0 ?_ | refine go_block ?_ | refine n_then ?_ | refine x_then ?_ | refine r_then ?_ | refine n_block ?_ | refine r_block ?_ | refine x_block ?_ | refine x_block_ne ?_ (by decide))
      | (with_reducible refine is_k ?_; refine go_k _ (by simp only [Ax.runK, Ax.runOps, Ax.run1, Ax.wantA, Ax.step, Ax.ev, Ax.evs, Ax.evo, Ax.evp, Ax.look, Ax.putE, Ax.keepE, Ax.argsE, Ax.extr, Ax.binV, Ax.intBin, Ax.unV, Ax.addOff, Ax.sizeN, Ax.mkV, Ax.okV, reduceIte, Nat.reduceEqDiff, Nat.reduceAdd, Nat.reduceLeDiff, Nat.reduceLT, Nat.reduceSub, Nat.reduceMul, reduceCtorEq, Int.reduceEq, Int.reduceLT, Int.reduceLE, Int.reduceAdd, Int.reduceSub, Int.reduceNeg, Int.reduceToNat, undef, Value.cells, axL]; rfl) rfl ?_)
      | (with_reducible refine cond_t ?_ ?_; · simp only [Ax.ev, Ax.look, reduceIte, Nat.reduceEqDiff])
      | (with_reducible refine cond_f ?_ ?_; · simp only [Ax.ev, Ax.look, reduceIte, Nat.reduceEqDiff])
      | (with_reducible refine is_rp ?_; first | refine r_postR rfl ?_ | refine r_postR (by simp only [Ax.result, Ax.resVs, Ax.resV, R32, Ax.look, sizeN, mkV, Nat.reduceEqDiff, reduceIte, axL]; rfl) ?_)
      | (with_reducible refine is_np ?_; first | refine n_postR rfl ?_ | refine n_postR (by simp only [Ax.result, Ax.resVs, Ax.resV, R32, Ax.look, sizeN, mkV, Nat.reduceEqDiff, reduceIte, axL]; rfl) ?_)
      | (first | with_reducible refine is_wd ?_ | with_reducible refine dk_wd ?_); refine go_dt _ (by simp only [Ax.runDK, Ax.runDT, Ax.runDops, Ax.run1d, Ax.recs, Ax.okPair, Ax.idsE, Ax.idsV, AOp.mems, AOp.isWrite, DRec.none, axD, Ax.runK, Ax.runOps, Ax.run1, Ax.wantA, Ax.step, Ax.ev, Ax.evs, Ax.evo, Ax.evp, Ax.look, Ax.putE, Ax.keepE, Ax.argsE, Ax.extr, Ax.binV, Ax.intBin, Ax.unV, Ax.addOff, Ax.sizeN, Ax.mkV, Ax.okV, reduceIte, Nat.reduceEqDiff, Nat.reduceAdd, Nat.reduceLeDiff, Nat.reduceLT, Nat.reduceSub, Nat.reduceMul, reduceCtorEq, Int.reduceEq, Int.reduceLT, Int.reduceLE, Int.reduceAdd, Int.reduceSub, Int.reduceNeg, Int.reduceToNat, undef, Value.cells, axL]; rfl) rfl ?_
      | (with_reducible first | refine end_reg (Ev.mono _ _) ?_ | refine end_dreg (Ev.mono _ _) ?_ | refine end_cond (Ev.mono _ _) ?_ | refine end_block (Ev.mono _ _) ?_ | refine end_loop (Ev.mono _ _) ?_))
      refine ⟨(k2, l1.set j l1[k2], ups m1 l1[k2].x j), by dsimp only; omega, ?_, rfl, H4.pick 4 [3, 0, 1, 2] rfl⟩
      dsimp only
      refine I.step hk2l hk20 hk2j (fun c hc h0 hcj => ?_) hl
      rw [← ix_get hk2l]; exact hmin c hc h0 hcj
  · repeat' (first
      | (with_reducible first | refine go_assoc ?_ (Ev.mono _ _) | refine go_skip ?_ | refine go_fin ?_ | refine go_ret ?_ | refine go_ret0 ?_ | refine go_exit ?_ | refine go_exit0 ?_ | refine go_block ?_ | refine n_then ?_ | refine x_then ?_ | refine r_then ?_ | refine n_block ?_ | refine r_block ?_ | refine x_block ?_ | refine x_block_ne ?_ (by decide))
      | (with_reducible refine is_k ?_; refine go_k _ (by simp only [Ax.runK, Ax.runOps, Ax.run1, Ax.wantA, Ax.step, Ax.ev, Ax.evs, Ax.evo, Ax.evp, Ax.look, Ax.putE, Ax.keepE, Ax.argsE, Ax.extr, Ax.binV, Ax.intBin, Ax.unV, Ax.addOff, Ax.sizeN, Ax.mkV, Ax.okV, reduceIte, Nat.reduceEqDiff, Nat.reduceAdd, Nat.reduceLeDiff, Nat.reduceLT, Nat.reduceSub, Nat.reduceMul, reduceCtorEq, Int.reduceEq, Int.reduceLT, Int.reduceLE, Int.reduceAdd, Int.reduceSub, Int.reduceNeg, Int.reduceToNat, undef, Value.cells, axL]; rfl) rfl ?_)
      | (with_reducible refine cond_t ?_ ?_; · simp only [Ax.ev, Ax.look, reduceIte, Nat.reduceEqDiff])
      | (with_reducible refine cond_f ?_ ?_; · simp only [Ax.ev, Ax.look, reduceIte, Nat.reduceEqDiff])
      | (with_reducible refine is_rp ?_; first | refine r_postR rfl ?_ | refine r_postR (by simp only [Ax.result, Ax.resVs, Ax.resV, R32, Ax.look, sizeN, mkV, Nat.reduceEqDiff, reduceIte, axL]; rfl) ?_)
      | (with_reducible refine is_np ?_; first | refine n_postR rfl ?_ | refine n_postR (by simp only [Ax.result, Ax.resVs, Ax.resV, R32, Ax.look, sizeN, mkV, Nat.reduceEqDiff, reduceIte, axL]; rfl) ?_)
      | (first | with_reducible refine is_wd ?_ | with_reducible refine dk_wd ?_); refine go_dt _ (by simp only [Ax.runDK, Ax.runDT, Ax.runDops, Ax.run1d, Ax.recs, Ax.okPair, Ax.idsE, Ax.idsV, AOp.mems, AOp.isWrite, DRec.none, axD, Ax.runK, Ax.runOps, Ax.run1, Ax.wantA, Ax.step, Ax.ev, Ax.evs, Ax.evo, Ax.evp, Ax.look, Ax.putE, Ax.keepE, Ax.argsE, Ax.extr, Ax.binV, Ax.intBin, Ax.unV, Ax.addOff, Ax.sizeN, Ax.mkV, Ax.okV, reduceIte, Nat.reduceEqDiff, Nat.reduceAdd, Nat.reduceLeDiff, Nat.reduceLT, Nat.reduceSub, Nat.reduceMul, reduceCtorEq, Int.reduceEq, Int.reduceLT, Int.reduceLE, Int.reduceAdd, Int.reduceSub, Int.reduceNeg, Int.reduceToNat, undef, Value.cells, axL]; rfl) rfl ?_
      | (with_reducible first | refine end_reg (Ev.mono _ _) ?_ | refine end_dreg (Ev.mono _ _) ?_ | refine end_cond (Ev.mono _ _) ?_ | refine end_block (Ev.mono _ _) ?_ | refine end_loop (Ev.mono _ _) ?_))
    repeat' (with_reducible first | refine go_assoc ?_ (Ev.mono _ _) | refine go_skip ?_ | refine go_block ?_ | refine end_reg (Ev.mono _ _) ?_)
    refine go_callN 3 _ (by simp only [Ax.runN, Ax.runK, Ax.runOps, Ax.run1, Ax.wantA, Ax.step, Ax.ev, Ax.evs, Ax.evo, Ax.evp, Ax.look, Ax.putE, Ax.keepE, Ax.argsE, Ax.extr, Ax.binV, Ax.intBin, Ax.unV, Ax.addOff, Ax.sizeN, Ax.mkV, Ax.okV, reduceIte, Nat.reduceEqDiff, Nat.reduceAdd, Nat.reduceLeDiff, Nat.reduceLT, Nat.reduceSub, Nat.reduceMul, reduceCtorEq, Int.reduceEq, Int.reduceLT, Int.reduceLE, Int.reduceAdd, Int.reduceSub, Int.reduceNeg, Int.reduceToNat, undef, Value.cells, axL, getAll (n := 3) hbx rfl]; rfl) rfl rfl (by simp only [Ax.wantA, Ax.look, reduceIte, Nat.reduceEqDiff, bq_t, bq_f, Bool.not_true, Bool.not_false]; try rfl) rfl (by simp only [Ax.runK, Ax.runOps, Ax.run1, Ax.wantA, Ax.step, Ax.ev, Ax.evs, Ax.evo, Ax.evp, Ax.look, Ax.putE, Ax.keepE, Ax.argsE, Ax.extr, Ax.binV, Ax.intBin, Ax.unV, Ax.addOff, Ax.sizeN, Ax.mkV, Ax.okV, reduceIte, Nat.reduceEqDiff, Nat.reduceAdd, Nat.reduceLeDiff, Nat.reduceLT, Nat.reduceSub, Nat.reduceMul, reduceCtorEq, Int.reduceEq, Int.reduceLT, Int.reduceLE, Int.reduceAdd, Int.reduceSub, Int.reduceNeg, Int.reduceToNat, undef, Value.cells, axL, getAll (n := 3) hbx rfl]; try rfl) ?_
    refine set_spec X (F := pts bx _ :: F) (H.pick 4 [1, 2, 3, 0] rfl) hjl x (fun S4 H4 => ?_)
    repeat' (first
      | (with_reducible first | refine go_assoc ?_ (Ev.mono _ _) | refine go_skip ?_ | refine go_fin ?_ | refine go_ret ?_ | refine go_ret0 ?_ | refine go_exit ?_ | refine go_exit0 ?_ | refine go_block ?_ | refine n_then ?_ | refine x_then ?_ | refine r_then ?_ | refine n_block ?_ | refine r_block ?_ | refine x_block ?_ | refine x_block_ne ?_ (by decide))
      | (with_reducible refine is_k ?_; refine go_k _ (by simp only [Ax.runK, Ax.runOps, Ax.run1, Ax.wantA, Ax.step, Ax.ev, Ax.evs, Ax.evo, Ax.evp, Ax.look, Ax.putE, Ax.keepE, Ax.argsE, Ax.extr, Ax.binV, Ax.intBin, Ax.unV, Ax.addOff, Ax.sizeN, Ax.mkV, Ax.okV, reduceIte, Nat.reduceEqDiff, Nat.reduceAdd, Nat.reduceLeDiff, Nat.reduceLT, Nat.reduceSub, Nat.reduceMul, reduceCtorEq, Int.reduceEq, Int.reduceLT, Int.reduceLE, Int.reduceAdd, Int.reduceSub, Int.reduceNeg, Int.reduceToNat, undef, Value.cells, axL]; rfl) rfl ?_)
      | (with_reducible refine cond_t ?_ ?_; · simp only [Ax.ev, Ax.look, reduceIte, Nat.reduceEqDiff])
      | (with_reducible refine cond_f ?_ ?_; · simp only [Ax.ev, Ax.look, reduceIte, Nat.reduceEqDiff])
      | (with_reducible refine is_rp ?_; first | refine r_postR rfl ?_ | refine r_postR (by simp only [Ax.result, Ax.resVs, Ax.resV, R32, Ax.look, sizeN, mkV, Nat.reduceEqDiff, reduceIte, axL]; rfl) ?_)
      | (with_reducible refine is_np ?_; first | refine n_postR rfl ?_ | refine n_postR (by simp only [Ax.result, Ax.resVs, Ax.resV, R32, Ax.look, sizeN, mkV, Nat.reduceEqDiff, reduceIte, axL]; rfl) ?_)
      | (first | with_reducible refine is_wd ?_ | with_reducible refine dk_wd ?_); refine go_dt _ (by simp only [Ax.runDK, Ax.runDT, Ax.runDops, Ax.run1d, Ax.recs, Ax.okPair, Ax.idsE, Ax.idsV, AOp.mems, AOp.isWrite, DRec.none, axD, Ax.runK, Ax.runOps, Ax.run1, Ax.wantA, Ax.step, Ax.ev, Ax.evs, Ax.evo, Ax.evp, Ax.look, Ax.putE, Ax.keepE, Ax.argsE, Ax.extr, Ax.binV, Ax.intBin, Ax.unV, Ax.addOff, Ax.sizeN, Ax.mkV, Ax.okV, reduceIte, Nat.reduceEqDiff, Nat.reduceAdd, Nat.reduceLeDiff, Nat.reduceLT, Nat.reduceSub, Nat.reduceMul, reduceCtorEq, Int.reduceEq, Int.reduceLT, Int.reduceLE, Int.reduceAdd, Int.reduceSub, Int.reduceNeg, Int.reduceToNat, undef, Value.cells, axL]; rfl) rfl ?_
      | (with_reducible first | refine end_reg (Ev.mono _ _) ?_ | refine end_dreg (Ev.mono _ _) ?_ | refine end_cond (Ev.mono _ _) ?_ | refine end_block (Ev.mono _ _) ?_ | refine end_loop (Ev.mono _ _) ?_))
    exact hq _ _ _ (H4.pick 4 [0, 1, 2] rfl) (I.fin (fun c hc h0 hcj => by omega))

end Go.Proofs.Ytboclpaokecalaa

/- Law 06: 'remove'. -/
namespace Go.Proofs.Ytboclpaokecalaa
open Go.Ax
open Go.Ax.Enc (enc)

theorem set_perm {α : Type} : ∀ {a : List α} {i : Nat} (y : α), i < a.length → (a.set i y).Perm (y :: a.eraseIdx i)
  | [], i, y, h => by simp at h
  | x :: a, 0, y, _ => by simp
  | x :: a, i + 1, y, h => by
    simp only [List.set_cons_succ, List.eraseIdx_cons_succ]
    exact ((set_perm (a := a) y (by simpa using h)).cons x).trans (List.Perm.swap _ _ _)

structure RemR (l : List It) (i : Nat) (l' : List It) (m' : List (Int × Int)) : Prop where
  perm : l'.Perm (l.eraseIdx i)
  ord : Ord (ix l') l'.length
  at' : AtOk m' l'

theorem ix_take {l : List It} {k j : Nat} (h : j < k) : ix (l.take k) j = ix l j := by
  simp only [ix, List.getElem?_take, if_pos h]

theorem ix_mem {v : List It} {y : Int} (h : y ∈ v.map (·.x)) : ∃ j, j < v.length ∧ (ix v j).x = y := by
  obtain ⟨a, ha, rfl⟩ := List.mem_map.1 h
  obtain ⟨j, hj, rfl⟩ := List.mem_iff_getElem.1 ha
  exact ⟨j, hj, by rw [ix_get hj]⟩

/-- The last one goes. -/
theorem rem_last {l : List It} {m : List (Int × Int)} (ho : Ord (ix l) l.length) (ha : AtOk m l) (hl : 0 < l.length) : RemR l (l.length - 1) (l.take (l.length - 1)) (dele m (ix l (l.length - 1)).x) := by
  have hlt : (l.take (l.length - 1)).length = l.length - 1 := by simp
  have he : l.eraseIdx (l.length - 1) = l.take (l.length - 1) := by
    rw [List.eraseIdx_eq_take_drop_succ]
    rw [show l.length - 1 + 1 = l.length from by omega]; simp
  refine ⟨by rw [he], fun j hj h0 => ?_, fun j hj => ?_, fun y k hy => ?_, ?_⟩
  · rw [hlt] at hj
    rw [ix_take hj, ix_take (by omega)]
    exact ho j (by omega) h0
  · rw [hlt] at hj
    rw [ix_take hj, lookup_dele, if_neg (fun e => by have := nd_ix ha.nd (by omega) (by omega) e; omega)]
    exact ha.at' j (by omega)
  · rw [lookup_dele] at hy
    split at hy
    · cases hy
    · rename_i hne
      obtain ⟨j, hj, rfl⟩ := ix_mem (ha.dom y k hy)
      have : j ≠ l.length - 1 := fun e => hne (by rw [e])
      have hj' : j < l.length - 1 := by omega
      rw [← ix_take hj']
      exact mem_ix (by rw [hlt]; exact hj')
  · exact List.Nodup.sublist (List.Sublist.map _ (List.take_sublist _ _)) ha.nd

/-- The last one comes into the place. -/
theorem rem_mid {l : List It} {m : List (Int × Int)} {i : Nat} (ho : Ord (ix l) l.length) (ha : AtOk m l) (hi : i < l.length - 1) (y : It) (hy : y = ix l (l.length - 1)) :
    ((l.take (l.length - 1)).set i y).Perm (l.eraseIdx i) ∧ ordA (ix ((l.take (l.length - 1)).set i y)) ((l.take (l.length - 1)).set i y).length i ∧ ordB (ix ((l.take (l.length - 1)).set i y)) ((l.take (l.length - 1)).set i y).length i ∧ AtOk (ups (dele m (ix l i).x) y.x i) ((l.take (l.length - 1)).set i y) := by
  have hlt : (l.take (l.length - 1)).length = l.length - 1 := by simp
  have hlt2 : ((l.take (l.length - 1)).set i y).length = l.length - 1 := by simp
  have hit : i < (l.take (l.length - 1)).length := by rw [hlt]; exact hi
  have hix : ∀ j, j < l.length - 1 → j ≠ i → ix ((l.take (l.length - 1)).set i y) j = ix l j := fun j hj hne => by
    rw [ix_set hit]; simp only [upd, if_neg hne]; exact ix_take hj
  have hixi : ix ((l.take (l.length - 1)).set i y) i = y := by rw [ix_set hit]; simp [upd]
  have hperm : ((l.take (l.length - 1)).set i y).Perm (l.eraseIdx i) := by
    refine (set_perm y hit).trans ?_
    have : l.eraseIdx i = (l.take (l.length - 1)).eraseIdx i ++ [y] := by
      have hl : l = l.take (l.length - 1) ++ [y] := by
        rw [hy, ix_get (by omega)]
        have : l.drop (l.length - 1) = [l[l.length - 1]] := by
          rw [List.drop_eq_getElem_cons (by omega), show l.length - 1 + 1 = l.length from by omega, List.drop_length]
        rw [← this, List.take_append_drop]
      conv => lhs; rw [hl]
      exact List.eraseIdx_append_of_lt_length hit _
    rw [this]
    exact (List.perm_append_singleton _ _).symm
  refine ⟨hperm, fun j hj h0 hne hpn => ?_, fun j hj h0 hpe hi0 => ?_, fun j hj => ?_, fun y' k hy' => ?_, ?_⟩
  · rw [hlt2] at hj
    rw [hix j hj hne, hix _ (by omega) hpn]
    exact ho j (by omega) h0
  · rw [hlt2] at hj
    rw [hix j hj (by omega), hix _ (by omega) (by omega)]
    exact Ord.b ho i (by omega) j (by omega) h0 hpe hi0
  · rw [hlt2] at hj
    rw [lookup_ups]
    by_cases e : j = i
    · subst e; rw [hixi, if_pos rfl]
    · rw [hix j hj e, if_neg, lookup_dele, if_neg, ha.at' j (by omega)]
      · intro h; exact e (nd_ix ha.nd (by omega) (by omega) h)
      · intro h; rw [hy] at h; have := nd_ix ha.nd (by omega) (by omega) h; omega
  · rw [lookup_ups] at hy'
    split at hy'
    · rename_i e
      subst e
      have := mem_ix (v := (l.take (l.length - 1)).set i y) (i := i) (by rw [hlt2]; exact hi)
      rwa [hixi] at this
    · rename_i hny
      rw [lookup_dele] at hy'
      split at hy'
      · cases hy'
      · rename_i hne
        obtain ⟨j, hj, rfl⟩ := ix_mem (ha.dom y' k hy')
        have h1 : j ≠ i := fun e => hne (by rw [e])
        have h2 : j ≠ l.length - 1 := fun e => hny (by rw [hy, e])
        have hj' : j < l.length - 1 := by omega
        rw [← hix j hj' h1]
        exact mem_ix (by rw [hlt2]; exact hj')
  · exact (hperm.map (·.x)).symm.nodup (List.Nodup.sublist (List.Sublist.map _ (List.eraseIdx_sublist _ _)) ha.nd)

theorem remove_spec (X : Nat → List Value → Option Value) {R : Nat → Option (List Value)} {F : List Asn} {S : AS} {h id : Nat} {lv sv : Value} {l : List It} {m : List (Int × Int)} (H : St R (hp h id lv sv l m F) S) {i : Nat} (hi : i < l.length) (hn : l.length < 1000000) (ho : Ord (ix l) l.length) (ha : AtOk m l) {Q : Value → AS → Prop}
    (hq : ∀ S' lv' l' m', St R (hp h id lv' sv l' m' F) S' → RemR l i l' m' → Q (itV l[i]) S') : Ev G X 19 [.pointer (some ⟨h, 0, none⟩), .int .i64 i] S Q := by
  refine Ev.fnR (rs := R19) (c := A19) rfl ?_
  unfold A19
  repeat' (first
      | (with_reducible first | refine go_assoc ?_ (Ev.mono _ _) | refine go_skip ?_ | refine go_fin ?_ | refine go_ret ?_ | refine go_ret0 ?_ | refine go_exit ?_ | refine go_exit0 ?_ | refine go_block ?_ | refine n_then ?_ | refine x_then ?_ | refine r_then ?_ | refine n_block ?_ | refine r_block ?_ | refine x_block ?_ | refine x_block_ne ?_ (by decide))
      | (with_reducible refine is_k ?_; refine go_k _ (by simp only [Ax.runK, Ax.runOps, Ax.run1, Ax.wantA, Ax.step, Ax.ev, Ax.evs, Ax.evo, Ax.evp, Ax.look, Ax.putE, Ax.keepE, Ax.argsE, Ax.extr, Ax.binV, Ax.intBin, Ax.unV, Ax.addOff, Ax.sizeN, Ax.mkV, Ax.okV, reduceIte, Nat.reduceEqDiff, Nat.reduceAdd, Nat.reduceLeDiff, Nat.reduceLT, Nat.reduceSub, Nat.reduceMul, reduceCtorEq, Int.reduceEq, Int.reduceLT, Int.reduceLE, Int.reduceAdd, Int.reduceSub, Int.reduceNeg, Int.reduceToNat, undef, Value.cells, axL]; rfl) rfl ?_)
      | (with_reducible refine cond_t ?_ ?_; · simp only [Ax.ev, Ax.look, reduceIte, Nat.reduceEqDiff])
      | (with_reducible refine cond_f ?_ ?_; · simp only [Ax.ev, Ax.look, reduceIte, Nat.reduceEqDiff])
      | (with_reducible refine is_rp ?_; first | refine r_postR rfl ?_ | refine r_postR (by simp only [Ax.result, Ax.resVs, Ax.resV, R19, Ax.look, sizeN, mkV, Nat.reduceEqDiff, reduceIte, axL]; rfl) ?_)
      | (with_reducible refine is_np ?_; first | refine n_postR rfl ?_ | refine n_postR (by simp only [Ax.result, Ax.resVs, Ax.resV, R19, Ax.look, sizeN, mkV, Nat.reduceEqDiff, reduceIte, axL]; rfl) ?_)
      | (first | with_reducible refine is_wd ?_ | with_reducible refine dk_wd ?_); refine go_dt _ (by simp only [Ax.runDK, Ax.runDT, Ax.runDops, Ax.run1d, Ax.recs, Ax.okPair, Ax.idsE, Ax.idsV, AOp.mems, AOp.isWrite, DRec.none, axD, Ax.runK, Ax.runOps, Ax.run1, Ax.wantA, Ax.step, Ax.ev, Ax.evs, Ax.evo, Ax.evp, Ax.look, Ax.putE, Ax.keepE, Ax.argsE, Ax.extr, Ax.binV, Ax.intBin, Ax.unV, Ax.addOff, Ax.sizeN, Ax.mkV, Ax.okV, reduceIte, Nat.reduceEqDiff, Nat.reduceAdd, Nat.reduceLeDiff, Nat.reduceLT, Nat.reduceSub, Nat.reduceMul, reduceCtorEq, Int.reduceEq, Int.reduceLT, Int.reduceLE, Int.reduceAdd, Int.reduceSub, Int.reduceNeg, Int.reduceToNat, undef, Value.cells, axL]; rfl) rfl ?_
      | (with_reducible first | refine end_reg (Ev.mono _ _) ?_ | refine end_dreg (Ev.mono _ _) ?_ | refine end_cond (Ev.mono _ _) ?_ | refine end_block (Ev.mono _ _) ?_ | refine end_loop (Ev.mono _ _) ?_))
  have H1 := (H.newc [.int .i64 0, .int .i64 0, .int .i64 0]).pick 4 [1, 2, 3, 0] rfl
  generalize S.nx = br at H1
  generalize S.new (.cells false [.int .i64 0, .int .i64 0, .int .i64 0]) = S1 at H1
  clear H
  have hb0 := H1.pget
  obtain ⟨b, a, e1, e2, e3, _⟩ := itAt (H1.pick 3 [1, 0, 2] rfl) hi
  repeat' (first
      | (with_reducible first | refine go_assoc ?_ (Ev.mono _ _) | refine go_skip ?_ | refine go_fin ?_ | refine go_ret ?_ | refine go_ret0 ?_ | refine go_exit ?_ | refine go_exit0 ?_ | refine go_block ?_ | refine n_then ?_ | refine x_then ?_ | refine r_then ?_ | refine n_block ?_ | refine r_block ?_ | refine x_block ?_ | refine x_block_ne ?_ (by decide))
      | (with_reducible refine is_k ?_; refine go_k _ (by simp only [Ax.runK, Ax.runOps, Ax.run1, Ax.wantA, Ax.step, Ax.ev, Ax.evs, Ax.evo, Ax.evp, Ax.look, Ax.putE, Ax.keepE, Ax.argsE, Ax.extr, Ax.binV, Ax.intBin, Ax.unV, Ax.addOff, Ax.sizeN, Ax.mkV, Ax.okV, reduceIte, Nat.reduceEqDiff, Nat.reduceAdd, Nat.reduceLeDiff, Nat.reduceLT, Nat.reduceSub, Nat.reduceMul, reduceCtorEq, Int.reduceEq, Int.reduceLT, Int.reduceLE, Int.reduceAdd, Int.reduceSub, Int.reduceNeg, Int.reduceToNat, undef, Value.cells, axL, get1 hb0, e1, e3]; rfl) rfl ?_)
      | (with_reducible refine cond_t ?_ ?_; · simp only [Ax.ev, Ax.look, reduceIte, Nat.reduceEqDiff])
      | (with_reducible refine cond_f ?_ ?_; · simp only [Ax.ev, Ax.look, reduceIte, Nat.reduceEqDiff])
      | (with_reducible refine is_rp ?_; first | refine r_postR rfl ?_ | refine r_postR (by simp only [Ax.result, Ax.resVs, Ax.resV, R19, Ax.look, sizeN, mkV, Nat.reduceEqDiff, reduceIte, axL, get1 hb0, e1, e3]; rfl) ?_)
      | (with_reducible refine is_np ?_; first | refine n_postR rfl ?_ | refine n_postR (by simp only [Ax.result, Ax.resVs, Ax.resV, R19, Ax.look, sizeN, mkV, Nat.reduceEqDiff, reduceIte, axL, get1 hb0, e1, e3]; rfl) ?_)
      | (first | with_reducible refine is_wd ?_ | with_reducible refine dk_wd ?_); refine go_dt _ (by simp only [Ax.runDK, Ax.runDT, Ax.runDops, Ax.run1d, Ax.recs, Ax.okPair, Ax.idsE, Ax.idsV, AOp.mems, AOp.isWrite, DRec.none, axD, Ax.runK, Ax.runOps, Ax.run1, Ax.wantA, Ax.step, Ax.ev, Ax.evs, Ax.evo, Ax.evp, Ax.look, Ax.putE, Ax.keepE, Ax.argsE, Ax.extr, Ax.binV, Ax.intBin, Ax.unV, Ax.addOff, Ax.sizeN, Ax.mkV, Ax.okV, reduceIte, Nat.reduceEqDiff, Nat.reduceAdd, Nat.reduceLeDiff, Nat.reduceLT, Nat.reduceSub, Nat.reduceMul, reduceCtorEq, Int.reduceEq, Int.reduceLT, Int.reduceLE, Int.reduceAdd, Int.reduceSub, Int.reduceNeg, Int.reduceToNat, undef, Value.cells, axL, get1 hb0, e1, e3]; rfl) rfl ?_
      | (with_reducible first | refine end_reg (Ev.mono _ _) ?_ | refine end_dreg (Ev.mono _ _) ?_ | refine end_cond (Ev.mono _ _) ?_ | refine end_block (Ev.mono _ _) ?_ | refine end_loop (Ev.mono _ _) ?_))
  have H2 := (H1.newc [.int .i64 l[i].when, .int .i64 l[i].seq, .int .i64 l[i].x]).pick 4 [1, 2, 3, 0] rfl
  generalize S1.nx = bx at H2
  generalize S1.new (.cells false [.int .i64 l[i].when, .int .i64 l[i].seq, .int .i64 l[i].x]) = S2 at H2
  clear H1
  obtain ⟨k, hk⟩ : ∃ k, k = l.length - 1 := ⟨_, rfl⟩
  have hkl : k < l.length := by omega
  have w1 : IntKind.wrap .i64 ((l.length : Int) - 1) = (k : Nat) := by
    have : (l.length : Int) - 1 = (k : Nat) := by omega
    rw [this]; exact wrapI (by unfold I64; omega)
  have hb0 := H2.pget
  have hlv := SlT.len (H2.pick 3 [1, 0, 2] rfl)
  obtain ⟨b, a, e1, e2, e3, _⟩ := itAt (H2.pick 3 [1, 0, 2] rfl) hkl
  repeat' (first
      | (with_reducible first | refine go_assoc ?_ (Ev.mono _ _) | refine go_skip ?_ | refine go_fin ?_ | refine go_ret ?_ | refine go_ret0 ?_ | refine go_exit ?_ | refine go_exit0 ?_ | refine go_block ?_ | refine n_then ?_ | refine x_then ?_ | refine r_then ?_ | refine n_block ?_ | refine r_block ?_ | refine x_block ?_ | refine x_block_ne ?_ (by decide))
      | (with_reducible refine is_k ?_; refine go_k _ (by simp only [Ax.runK, Ax.runOps, Ax.run1, Ax.wantA, Ax.step, Ax.ev, Ax.evs, Ax.evo, Ax.evp, Ax.look, Ax.putE, Ax.keepE, Ax.argsE, Ax.extr, Ax.binV, Ax.intBin, Ax.unV, Ax.addOff, Ax.sizeN, Ax.mkV, Ax.okV, reduceIte, Nat.reduceEqDiff, Nat.reduceAdd, Nat.reduceLeDiff, Nat.reduceLT, Nat.reduceSub, Nat.reduceMul, reduceCtorEq, Int.reduceEq, Int.reduceLT, Int.reduceLE, Int.reduceAdd, Int.reduceSub, Int.reduceNeg, Int.reduceToNat, undef, Value.cells, axL, get1 hb0, w1, hlv, e1, e3]; rfl) rfl ?_)
      | (with_reducible refine cond_t ?_ ?_; · simp only [Ax.ev, Ax.look, reduceIte, Nat.reduceEqDiff])
      | (with_reducible refine cond_f ?_ ?_; · simp only [Ax.ev, Ax.look, reduceIte, Nat.reduceEqDiff])
      | (with_reducible refine is_rp ?_; first | refine r_postR rfl ?_ | refine r_postR (by simp only [Ax.result, Ax.resVs, Ax.resV, R19, Ax.look, sizeN, mkV, Nat.reduceEqDiff, reduceIte, axL, get1 hb0, w1, hlv, e1, e3]; rfl) ?_)
      | (with_reducible refine is_np ?_; first | refine n_postR rfl ?_ | refine n_postR (by simp only [Ax.result, Ax.resVs, Ax.resV, R19, Ax.look, sizeN, mkV, Nat.reduceEqDiff, reduceIte, axL, get1 hb0, w1, hlv, e1, e3]; rfl) ?_)
      | (first | with_reducible refine is_wd ?_ | with_reducible refine dk_wd ?_); refine go_dt _ (by simp only [Ax.runDK, Ax.runDT, Ax.runDops, Ax.run1d, Ax.recs, Ax.okPair, Ax.idsE, Ax.idsV, AOp.mems, AOp.isWrite, DRec.none, axD, Ax.runK, Ax.runOps, Ax.run1, Ax.wantA, Ax.step, Ax.ev, Ax.evs, Ax.evo, Ax.evp, Ax.look, Ax.putE, Ax.keepE, Ax.argsE, Ax.extr, Ax.binV, Ax.intBin, Ax.unV, Ax.addOff, Ax.sizeN, Ax.mkV, Ax.okV, reduceIte, Nat.reduceEqDiff, Nat.reduceAdd, Nat.reduceLeDiff, Nat.reduceLT, Nat.reduceSub, Nat.reduceMul, reduceCtorEq, Int.reduceEq, Int.reduceLT, Int.reduceLE, Int.reduceAdd, Int.reduceSub, Int.reduceNeg, Int.reduceToNat, undef, Value.cells, axL, get1 hb0, w1, hlv, e1, e3]; rfl) rfl ?_
      | (with_reducible first | refine end_reg (Ev.mono _ _) ?_ | refine end_dreg (Ev.mono _ _) ?_ | refine end_cond (Ev.mono _ _) ?_ | refine end_block (Ev.mono _ _) ?_ | refine end_loop (Ev.mono _ _) ?_))
  have H3 := (H2.newc [.int .i64 l[k].when, .int .i64 l[k].seq, .int .i64 l[k].x]).pick 4 [1, 2, 3, 0] rfl
  generalize S2.nx = by' at H3
  generalize S2.new (.cells false [.int .i64 l[k].when, .int .i64 l[k].seq, .int .i64 l[k].x]) = S3 at H3
  clear H2
  have hb0 := H3.pget
  obtain ⟨v', g1, H4⟩ := SlT.slice (H3.pick 3 [1, 0, 2] rfl) (lo := 0) (hi := k) (Nat.zero_le _) (by omega) none (some (.int .i64 k)) (.inl ⟨rfl, rfl⟩) (.inr ⟨_, rfl⟩)
  rw [List.drop_zero, Nat.sub_zero] at H4
  obtain ⟨al, ac, rfl⟩ := SlT.shape H4
  have H5 := (H4.pick 3 [1, 0, 2] rfl).setc [.slice al (l.take k).length ac, .map (some id), sv]
  repeat' (first
      | (with_reducible first | refine go_assoc ?_ (Ev.mono _ _) | refine go_skip ?_ | refine go_fin ?_ | refine go_ret ?_ | refine go_ret0 ?_ | refine go_exit ?_ | refine go_exit0 ?_ | refine go_block ?_ | refine n_then ?_ | refine x_then ?_ | refine r_then ?_ | refine n_block ?_ | refine r_block ?_ | refine x_block ?_ | refine x_block_ne ?_ (by decide))
      | (with_reducible refine is_k ?_; refine go_k _ (by simp only [Ax.runK, Ax.runOps, Ax.run1, Ax.wantA, Ax.step, Ax.ev, Ax.evs, Ax.evo, Ax.evp, Ax.look, Ax.putE, Ax.keepE, Ax.argsE, Ax.extr, Ax.binV, Ax.intBin, Ax.unV, Ax.addOff, Ax.sizeN, Ax.mkV, Ax.okV, reduceIte, Nat.reduceEqDiff, Nat.reduceAdd, Nat.reduceLeDiff, Nat.reduceLT, Nat.reduceSub, Nat.reduceMul, reduceCtorEq, Int.reduceEq, Int.reduceLT, Int.reduceLE, Int.reduceAdd, Int.reduceSub, Int.reduceNeg, Int.reduceToNat, undef, Value.cells, axL, get1 hb0, g1, set1 hb0]; rfl) rfl ?_)
      | (with_reducible refine cond_t ?_ ?_; · simp only [Ax.ev, Ax.look, reduceIte, Nat.reduceEqDiff])
      | (with_reducible refine cond_f ?_ ?_; · simp only [Ax.ev, Ax.look, reduceIte, Nat.reduceEqDiff])
      | (with_reducible refine is_rp ?_; first | refine r_postR rfl ?_ | refine r_postR (by simp only [Ax.result, Ax.resVs, Ax.resV, R19, Ax.look, sizeN, mkV, Nat.reduceEqDiff, reduceIte, axL, get1 hb0, g1, set1 hb0]; rfl) ?_)
      | (with_reducible refine is_np ?_; first | refine n_postR rfl ?_ | refine n_postR (by simp only [Ax.result, Ax.resVs, Ax.resV, R19, Ax.look, sizeN, mkV, Nat.reduceEqDiff, reduceIte, axL, get1 hb0, g1, set1 hb0]; rfl) ?_)
      | (first | with_reducible refine is_wd ?_ | with_reducible refine dk_wd ?_); refine go_dt _ (by simp only [Ax.runDK, Ax.runDT, Ax.runDops, Ax.run1d, Ax.recs, Ax.okPair, Ax.idsE, Ax.idsV, AOp.mems, AOp.isWrite, DRec.none, axD, Ax.runK, Ax.runOps, Ax.run1, Ax.wantA, Ax.step, Ax.ev, Ax.evs, Ax.evo, Ax.evp, Ax.look, Ax.putE, Ax.keepE, Ax.argsE, Ax.extr, Ax.binV, Ax.intBin, Ax.unV, Ax.addOff, Ax.sizeN, Ax.mkV, Ax.okV, reduceIte, Nat.reduceEqDiff, Nat.reduceAdd, Nat.reduceLeDiff, Nat.reduceLT, Nat.reduceSub, Nat.reduceMul, reduceCtorEq, Int.reduceEq, Int.reduceLT, Int.reduceLE, Int.reduceAdd, Int.reduceSub, Int.reduceNeg, Int.reduceToNat, undef, Value.cells, axL, get1 hb0, g1, set1 hb0]; rfl) rfl ?_
      | (with_reducible first | refine end_reg (Ev.mono _ _) ?_ | refine end_dreg (Ev.mono _ _) ?_ | refine end_cond (Ev.mono _ _) ?_ | refine end_block (Ev.mono _ _) ?_ | refine end_loop (Ev.mono _ _) ?_))
  generalize S3.set h (some (.cells false [.slice al (l.take k).length ac, .map (some id), sv])) = S4 at H5
  clear H3 H4
  generalize hlv' : Value.slice al (l.take k).length ac = lv' at H5
  have hb0 := H5.pget
  have hb5 := (H5.pick 5 [4] rfl).pget
  obtain ⟨S5, g2, H6, _⟩ := MapI.del (H5.pick 3 [2, 0, 1] rfl) l[i].x
  repeat' (first
      | (with_reducible first | refine go_assoc ?_ (Ev.mono _ _) | refine go_skip ?_ | refine go_fin ?_ | refine go_ret ?_ | refine go_ret0 ?_ | refine go_exit ?_ | refine go_exit0 ?_ | refine go_block ?_ | refine n_then ?_ | refine x_then ?_ | refine r_then ?_ | refine n_block ?_ | refine r_block ?_ | refine x_block ?_ | refine x_block_ne ?_ (by decide))
      | (with_reducible refine is_k ?_; refine go_k _ (by simp only [Ax.runK, Ax.runOps, Ax.run1, Ax.wantA, Ax.step, Ax.ev, Ax.evs, Ax.evo, Ax.evp, Ax.look, Ax.putE, Ax.keepE, Ax.argsE, Ax.extr, Ax.binV, Ax.intBin, Ax.unV, Ax.addOff, Ax.sizeN, Ax.mkV, Ax.okV, reduceIte, Nat.reduceEqDiff, Nat.reduceAdd, Nat.reduceLeDiff, Nat.reduceLT, Nat.reduceSub, Nat.reduceMul, reduceCtorEq, Int.reduceEq, Int.reduceLT, Int.reduceLE, Int.reduceAdd, Int.reduceSub, Int.reduceNeg, Int.reduceToNat, undef, Value.cells, axL, get1 hb0, get1 hb5, g2]; rfl) rfl ?_)
      | (with_reducible refine cond_t ?_ ?_; · simp only [Ax.ev, Ax.look, reduceIte, Nat.reduceEqDiff])
      | (with_reducible refine cond_f ?_ ?_; · simp only [Ax.ev, Ax.look, reduceIte, Nat.reduceEqDiff])
      | (with_reducible refine is_rp ?_; first | refine r_postR rfl ?_ | refine r_postR (by simp only [Ax.result, Ax.resVs, Ax.resV, R19, Ax.look, sizeN, mkV, Nat.reduceEqDiff, reduceIte, axL, get1 hb0, get1 hb5, g2]; rfl) ?_)
      | (with_reducible refine is_np ?_; first | refine n_postR rfl ?_ | refine n_postR (by simp only [Ax.result, Ax.resVs, Ax.resV, R19, Ax.look, sizeN, mkV, Nat.reduceEqDiff, reduceIte, axL, get1 hb0, get1 hb5, g2]; rfl) ?_)
      | (first | with_reducible refine is_wd ?_ | with_reducible refine dk_wd ?_); refine go_dt _ (by simp only [Ax.runDK, Ax.runDT, Ax.runDops, Ax.run1d, Ax.recs, Ax.okPair, Ax.idsE, Ax.idsV, AOp.mems, AOp.isWrite, DRec.none, axD, Ax.runK, Ax.runOps, Ax.run1, Ax.wantA, Ax.step, Ax.ev, Ax.evs, Ax.evo, Ax.evp, Ax.look, Ax.putE, Ax.keepE, Ax.argsE, Ax.extr, Ax.binV, Ax.intBin, Ax.unV, Ax.addOff, Ax.sizeN, Ax.mkV, Ax.okV, reduceIte, Nat.reduceEqDiff, Nat.reduceAdd, Nat.reduceLeDiff, Nat.reduceLT, Nat.reduceSub, Nat.reduceMul, reduceCtorEq, Int.reduceEq, Int.reduceLT, Int.reduceLE, Int.reduceAdd, Int.reduceSub, Int.reduceNeg, Int.reduceToNat, undef, Value.cells, axL, get1 hb0, get1 hb5, g2]; rfl) rfl ?_
      | (with_reducible first | refine end_reg (Ev.mono _ _) ?_ | refine end_dreg (Ev.mono _ _) ?_ | refine end_cond (Ev.mono _ _) ?_ | refine end_block (Ev.mono _ _) ?_ | refine end_loop (Ev.mono _ _) ?_))
  have H7 := H6.pick 3 [1, 2, 0] rfl
  clear H5 H6
  refine cond_d rfl (fun hlt => ?_) (fun hlt => ?_)
  · have hik : i < k := by omega
    have hb7 := (H7.pick 4 [3] rfl).pget
    obtain ⟨k1, k2, k3, k4⟩ := rem_mid (l := l) (i := i) ho ha (by omega) l[k] (by subst hk; rw [ix_get])
    rw [← hk] at k1 k2 k3 k4
    rw [ix_get hi] at k4
    repeat' (with_reducible first | refine go_assoc ?_ (Ev.mono _ _) | refine go_skip ?_ | refine go_block ?_ | refine end_reg (Ev.mono _ _) ?_)
    refine go_callN 3 _ (by simp only [Ax.runN, Ax.runK, Ax.runOps, Ax.run1, Ax.wantA, Ax.step, Ax.ev, Ax.evs, Ax.evo, Ax.evp, Ax.look, Ax.putE, Ax.keepE, Ax.argsE, Ax.extr, Ax.binV, Ax.intBin, Ax.unV, Ax.addOff, Ax.sizeN, Ax.mkV, Ax.okV, reduceIte, Nat.reduceEqDiff, Nat.reduceAdd, Nat.reduceLeDiff, Nat.reduceLT, Nat.reduceSub, Nat.reduceMul, reduceCtorEq, Int.reduceEq, Int.reduceLT, Int.reduceLE, Int.reduceAdd, Int.reduceSub, Int.reduceNeg, Int.reduceToNat, undef, Value.cells, axL, getAll (n := 3) hb7 rfl]; rfl) rfl rfl (by simp only [Ax.wantA, Ax.look, reduceIte, Nat.reduceEqDiff, bq_t, bq_f, Bool.not_true, Bool.not_false]; try rfl) rfl (by simp only [Ax.runK, Ax.runOps, Ax.run1, Ax.wantA, Ax.step, Ax.ev, Ax.evs, Ax.evo, Ax.evp, Ax.look, Ax.putE, Ax.keepE, Ax.argsE, Ax.extr, Ax.binV, Ax.intBin, Ax.unV, Ax.addOff, Ax.sizeN, Ax.mkV, Ax.okV, reduceIte, Nat.reduceEqDiff, Nat.reduceAdd, Nat.reduceLeDiff, Nat.reduceLT, Nat.reduceSub, Nat.reduceMul, reduceCtorEq, Int.reduceEq, Int.reduceLT, Int.reduceLE, Int.reduceAdd, Int.reduceSub, Int.reduceNeg, Int.reduceToNat, undef, Value.cells, axL, getAll (n := 3) hb7 rfl]; try rfl) ?_
    refine set_spec X H7 (i := i) (by simp; omega) l[k] (fun S6 H8 => ?_)
    repeat' (first
      | (with_reducible first | refine go_assoc ?_ (Ev.mono _ _) | refine go_skip ?_ | refine go_fin ?_ | refine go_ret ?_ | refine go_ret0 ?_ | refine go_exit ?_ | refine go_exit0 ?_ | refine go_block ?_ | refine n_then ?_ | refine x_then ?_ | refine r_then ?_ | refine n_block ?_ | refine r_block ?_ | refine x_block ?_ | refine x_block_ne ?_ (by decide))
      | (with_reducible refine is_k ?_; refine go_k _ (by simp only [Ax.runK, Ax.runOps, Ax.run1, Ax.wantA, Ax.step, Ax.ev, Ax.evs, Ax.evo, Ax.evp, Ax.look, Ax.putE, Ax.keepE, Ax.argsE, Ax.extr, Ax.binV, Ax.intBin, Ax.unV, Ax.addOff, Ax.sizeN, Ax.mkV, Ax.okV, reduceIte, Nat.reduceEqDiff, Nat.reduceAdd, Nat.reduceLeDiff, Nat.reduceLT, Nat.reduceSub, Nat.reduceMul, reduceCtorEq, Int.reduceEq, Int.reduceLT, Int.reduceLE, Int.reduceAdd, Int.reduceSub, Int.reduceNeg, Int.reduceToNat, undef, Value.cells, axL]; rfl) rfl ?_)
      | (with_reducible refine cond_t ?_ ?_; · simp only [Ax.ev, Ax.look, reduceIte, Nat.reduceEqDiff])
      | (with_reducible refine cond_f ?_ ?_; · simp only [Ax.ev, Ax.look, reduceIte, Nat.reduceEqDiff])
      | (with_reducible refine is_rp ?_; first | refine r_postR rfl ?_ | refine r_postR (by simp only [Ax.result, Ax.resVs, Ax.resV, R19, Ax.look, sizeN, mkV, Nat.reduceEqDiff, reduceIte, axL]; rfl) ?_)
      | (with_reducible refine is_np ?_; first | refine n_postR rfl ?_ | refine n_postR (by simp only [Ax.result, Ax.resVs, Ax.resV, R19, Ax.look, sizeN, mkV, Nat.reduceEqDiff, reduceIte, axL]; rfl) ?_)
      | (first | with_reducible refine is_wd ?_ | with_reducible refine dk_wd ?_); refine go_dt _ (by simp only [Ax.runDK, Ax.runDT, Ax.runDops, Ax.run1d, Ax.recs, Ax.okPair, Ax.idsE, Ax.idsV, AOp.mems, AOp.isWrite, DRec.none, axD, Ax.runK, Ax.runOps, Ax.run1, Ax.wantA, Ax.step, Ax.ev, Ax.evs, Ax.evo, Ax.evp, Ax.look, Ax.putE, Ax.keepE, Ax.argsE, Ax.extr, Ax.binV, Ax.intBin, Ax.unV, Ax.addOff, Ax.sizeN, Ax.mkV, Ax.okV, reduceIte, Nat.reduceEqDiff, Nat.reduceAdd, Nat.reduceLeDiff, Nat.reduceLT, Nat.reduceSub, Nat.reduceMul, reduceCtorEq, Int.reduceEq, Int.reduceLT, Int.reduceLE, Int.reduceAdd, Int.reduceSub, Int.reduceNeg, Int.reduceToNat, undef, Value.cells, axL]; rfl) rfl ?_
      | (with_reducible first | refine end_reg (Ev.mono _ _) ?_ | refine end_dreg (Ev.mono _ _) ?_ | refine end_cond (Ev.mono _ _) ?_ | refine end_block (Ev.mono _ _) ?_ | refine end_loop (Ev.mono _ _) ?_))
    repeat' (with_reducible first | refine go_assoc ?_ (Ev.mono _ _) | refine go_skip ?_ | refine go_block ?_ | refine end_reg (Ev.mono _ _) ?_)
    refine go_callN 2 _ (by simp only [Ax.runN, Ax.runK, Ax.runOps, Ax.run1, Ax.wantA, Ax.step, Ax.ev, Ax.evs, Ax.evo, Ax.evp, Ax.look, Ax.putE, Ax.keepE, Ax.argsE, Ax.extr, Ax.binV, Ax.intBin, Ax.unV, Ax.addOff, Ax.sizeN, Ax.mkV, Ax.okV, reduceIte, Nat.reduceEqDiff, Nat.reduceAdd, Nat.reduceLeDiff, Nat.reduceLT, Nat.reduceSub, Nat.reduceMul, reduceCtorEq, Int.reduceEq, Int.reduceLT, Int.reduceLE, Int.reduceAdd, Int.reduceSub, Int.reduceNeg, Int.reduceToNat, undef, Value.cells, axL]; rfl) rfl rfl (by simp only [Ax.wantA, Ax.look, reduceIte, Nat.reduceEqDiff, bq_t, bq_f, Bool.not_true, Bool.not_false]; try rfl) rfl (by simp only [Ax.runK, Ax.runOps, Ax.run1, Ax.wantA, Ax.step, Ax.ev, Ax.evs, Ax.evo, Ax.evp, Ax.look, Ax.putE, Ax.keepE, Ax.argsE, Ax.extr, Ax.binV, Ax.intBin, Ax.unV, Ax.addOff, Ax.sizeN, Ax.mkV, Ax.okV, reduceIte, Nat.reduceEqDiff, Nat.reduceAdd, Nat.reduceLeDiff, Nat.reduceLT, Nat.reduceSub, Nat.reduceMul, reduceCtorEq, Int.reduceEq, Int.reduceLT, Int.reduceLE, Int.reduceAdd, Int.reduceSub, Int.reduceNeg, Int.reduceToNat, undef, Value.cells, axL]; try rfl) ?_
    refine up_spec X H8 (i := i) (by simp; omega) (by simp; omega) k2 k3 (k4.x _) (fun S7 l' m' i' H9 hu => ?_)
    have hb0 := H9.pget
    have hb7 := (H9.pick 4 [3] rfl).pget
    have hxi : ix l' i' = l[k] := by
      rw [hu.same, ix_set (by simp; omega)]; simp [upd]
    have hlk : m'.lookup l[k].x = some (i' : Int) := by rw [← hxi]; exact hu.at'.at' i' hu.lt
    have g3 := MapI.lookup (H9.pick 3 [2, 0, 1] rfl) (.int .i64 0) l[k].x false
    rw [hlk] at g3
    repeat' (first
      | (with_reducible first | refine go_assoc ?_ (Ev.mono _ _) | refine go_skip ?_ | refine go_fin ?_ | refine go_ret ?_ | refine go_ret0 ?_ | refine go_exit ?_ | refine go_exit0 ?_ | refine go_block ?_ | refine n_then ?_ | refine x_then ?_ | refine r_then ?_ | refine n_block ?_ | refine r_block ?_ | refine x_block ?_ | refine x_block_ne ?_ (by decide))
      | (with_reducible refine is_k ?_; refine go_k _ (by simp only [Ax.runK, Ax.runOps, Ax.run1, Ax.wantA, Ax.step, Ax.ev, Ax.evs, Ax.evo, Ax.evp, Ax.look, Ax.putE, Ax.keepE, Ax.argsE, Ax.extr, Ax.binV, Ax.intBin, Ax.unV, Ax.addOff, Ax.sizeN, Ax.mkV, Ax.okV, reduceIte, Nat.reduceEqDiff, Nat.reduceAdd, Nat.reduceLeDiff, Nat.reduceLT, Nat.reduceSub, Nat.reduceMul, reduceCtorEq, Int.reduceEq, Int.reduceLT, Int.reduceLE, Int.reduceAdd, Int.reduceSub, Int.reduceNeg, Int.reduceToNat, undef, Value.cells, axL]; rfl) rfl ?_)
      | (with_reducible refine cond_t ?_ ?_; · simp only [Ax.ev, Ax.look, reduceIte, Nat.reduceEqDiff])
      | (with_reducible refine cond_f ?_ ?_; · simp only [Ax.ev, Ax.look, reduceIte, Nat.reduceEqDiff])
      | (with_reducible refine is_rp ?_; first | refine r_postR rfl ?_ | refine r_postR (by simp only [Ax.result, Ax.resVs, Ax.resV, R19, Ax.look, sizeN, mkV, Nat.reduceEqDiff, reduceIte, axL]; rfl) ?_)
      | (with_reducible refine is_np ?_; first | refine n_postR rfl ?_ | refine n_postR (by simp only [Ax.result, Ax.resVs, Ax.resV, R19, Ax.look, sizeN, mkV, Nat.reduceEqDiff, reduceIte, axL]; rfl) ?_)
      | (first | with_reducible refine is_wd ?_ | with_reducible refine dk_wd ?_); refine go_dt _ (by simp only [Ax.runDK, Ax.runDT, Ax.runDops, Ax.run1d, Ax.recs, Ax.okPair, Ax.idsE, Ax.idsV, AOp.mems, AOp.isWrite, DRec.none, axD, Ax.runK, Ax.runOps, Ax.run1, Ax.wantA, Ax.step, Ax.ev, Ax.evs, Ax.evo, Ax.evp, Ax.look, Ax.putE, Ax.keepE, Ax.argsE, Ax.extr, Ax.binV, Ax.intBin, Ax.unV, Ax.addOff, Ax.sizeN, Ax.mkV, Ax.okV, reduceIte, Nat.reduceEqDiff, Nat.reduceAdd, Nat.reduceLeDiff, Nat.reduceLT, Nat.reduceSub, Nat.reduceMul, reduceCtorEq, Int.reduceEq, Int.reduceLT, Int.reduceLE, Int.reduceAdd, Int.reduceSub, Int.reduceNeg, Int.reduceToNat, undef, Value.cells, axL]; rfl) rfl ?_
      | (with_reducible first | refine end_reg (Ev.mono _ _) ?_ | refine end_dreg (Ev.mono _ _) ?_ | refine end_cond (Ev.mono _ _) ?_ | refine end_block (Ev.mono _ _) ?_ | refine end_loop (Ev.mono _ _) ?_))
    repeat' (with_reducible first | refine go_assoc ?_ (Ev.mono _ _) | refine go_skip ?_ | refine go_block ?_ | refine end_dreg (Ev.mono _ _) ?_ | refine go_d ?_)
    refine go_dcall0 8 _ (by simp only [Ax.runDN, Ax.runDK, Ax.runDT, Ax.runDops, Ax.run1d, Ax.recs, Ax.okPair, Ax.idsE, Ax.idsV, AOp.mems, AOp.isWrite, DRec.none, axD, Ax.runK, Ax.runOps, Ax.run1, Ax.wantA, Ax.step, Ax.ev, Ax.evs, Ax.evo, Ax.evp, Ax.look, Ax.putE, Ax.keepE, Ax.argsE, Ax.extr, Ax.binV, Ax.intBin, Ax.unV, Ax.addOff, Ax.sizeN, Ax.mkV, Ax.okV, reduceIte, Nat.reduceEqDiff, Nat.reduceAdd, Nat.reduceLeDiff, Nat.reduceLT, Nat.reduceSub, Nat.reduceMul, reduceCtorEq, Int.reduceEq, Int.reduceLT, Int.reduceLE, Int.reduceAdd, Int.reduceSub, Int.reduceNeg, Int.reduceToNat, undef, Value.cells, axL, get1 hb0, get1 hb7, g3]; rfl) rfl rfl (by simp only [Ax.wantA, Ax.look, reduceIte, Nat.reduceEqDiff, bq_t, bq_f, Bool.not_true, Bool.not_false]; try rfl) rfl (by simp only [Ax.runK, Ax.runOps, Ax.run1, Ax.wantA, Ax.step, Ax.ev, Ax.evs, Ax.evo, Ax.evp, Ax.look, Ax.putE, Ax.keepE, Ax.argsE, Ax.extr, Ax.binV, Ax.intBin, Ax.unV, Ax.addOff, Ax.sizeN, Ax.mkV, Ax.okV, reduceIte, Nat.reduceEqDiff, Nat.reduceAdd, Nat.reduceLeDiff, Nat.reduceLT, Nat.reduceSub, Nat.reduceMul, reduceCtorEq, Int.reduceEq, Int.reduceLT, Int.reduceLE, Int.reduceAdd, Int.reduceSub, Int.reduceNeg, Int.reduceToNat, undef, Value.cells, axL, get1 hb0, get1 hb7, g3]; try rfl) (by simp only [hidden, AS.roAt, AObj.ro, List.filter_cons, List.filter_nil, Nat.sub_self, List.range'_zero, Ax.runDK, Ax.runDT, Ax.runDops, Ax.run1d, Ax.recs, Ax.okPair, Ax.idsE, Ax.idsV, AOp.mems, AOp.isWrite, DRec.none, axD, Ax.runK, Ax.runOps, Ax.run1, Ax.wantA, Ax.step, Ax.ev, Ax.evs, Ax.evo, Ax.evp, Ax.look, Ax.putE, Ax.keepE, Ax.argsE, Ax.extr, Ax.binV, Ax.intBin, Ax.unV, Ax.addOff, Ax.sizeN, Ax.mkV, Ax.okV, reduceIte, Nat.reduceEqDiff, Nat.reduceAdd, Nat.reduceLeDiff, Nat.reduceLT, Nat.reduceSub, Nat.reduceMul, reduceCtorEq, Int.reduceEq, Int.reduceLT, Int.reduceLE, Int.reduceAdd, Int.reduceSub, Int.reduceNeg, Int.reduceToNat, undef, Value.cells, axL, get1 hb0, get1 hb7, g3]; try rfl) ?_
    refine down_spec X H9 hu.lt (by rw [hu.perm.length_eq]; simp; omega) hu.a hu.b hu.p (hu.at'.x _) (fun S8 l'' m'' H10 hd => ?_)
    have hb5 := (H10.pick 5 [4] rfl).pget
    have hbr := (H10.pick 6 [5] rfl).pget
    have H11 := (H10.pick 6 [5, 0, 1, 2, 3, 4] rfl).setc [.int .i64 l[i].when, .int .i64 l[i].seq, .int .i64 l[i].x]
    repeat' (first
      | (with_reducible first | refine go_assoc ?_ (Ev.mono _ _) | refine go_skip ?_ | refine go_fin ?_ | refine go_ret ?_ | refine go_ret0 ?_ | refine go_exit ?_ | refine go_exit0 ?_ | refine go_block ?_ | refine n_then ?_ | refine x_then ?_ | refine r_then ?_ | refine n_block ?_ | refine r_block ?_ | refine x_block ?_ | refine x_block_ne ?_ (by decide))
      | (with_reducible refine is_k ?_; refine go_k _ (by simp only [Ax.runK, Ax.runOps, Ax.run1, Ax.wantA, Ax.step, Ax.ev, Ax.evs, Ax.evo, Ax.evp, Ax.look, Ax.putE, Ax.keepE, Ax.argsE, Ax.extr, Ax.binV, Ax.intBin, Ax.unV, Ax.addOff, Ax.sizeN, Ax.mkV, Ax.okV, reduceIte, Nat.reduceEqDiff, Nat.reduceAdd, Nat.reduceLeDiff, Nat.reduceLT, Nat.reduceSub, Nat.reduceMul, reduceCtorEq, Int.reduceEq, Int.reduceLT, Int.reduceLE, Int.reduceAdd, Int.reduceSub, Int.reduceNeg, Int.reduceToNat, undef, Value.cells, axL, getAll (n := 3) hb5 rfl, setAll hbr, getAll (n := 3) H11.pget rfl]; rfl) rfl ?_)
      | (with_reducible refine cond_t ?_ ?_; · simp only [Ax.ev, Ax.look, reduceIte, Nat.reduceEqDiff])
      | (with_reducible refine cond_f ?_ ?_; · simp only [Ax.ev, Ax.look, reduceIte, Nat.reduceEqDiff])
      | (with_reducible refine is_rp ?_; first | refine r_postR rfl ?_ | refine r_postR (by simp only [Ax.result, Ax.resVs, Ax.resV, R19, Ax.look, sizeN, mkV, Nat.reduceEqDiff, reduceIte, axL, getAll (n := 3) hb5 rfl, setAll hbr, getAll (n := 3) H11.pget rfl]; rfl) ?_)
      | (with_reducible refine is_np ?_; first | refine n_postR rfl ?_ | refine n_postR (by simp only [Ax.result, Ax.resVs, Ax.resV, R19, Ax.look, sizeN, mkV, Nat.reduceEqDiff, reduceIte, axL, getAll (n := 3) hb5 rfl, setAll hbr, getAll (n := 3) H11.pget rfl]; rfl) ?_)
      | (first | with_reducible refine is_wd ?_ | with_reducible refine dk_wd ?_); refine go_dt _ (by simp only [Ax.runDK, Ax.runDT, Ax.runDops, Ax.run1d, Ax.recs, Ax.okPair, Ax.idsE, Ax.idsV, AOp.mems, AOp.isWrite, DRec.none, axD, Ax.runK, Ax.runOps, Ax.run1, Ax.wantA, Ax.step, Ax.ev, Ax.evs, Ax.evo, Ax.evp, Ax.look, Ax.putE, Ax.keepE, Ax.argsE, Ax.extr, Ax.binV, Ax.intBin, Ax.unV, Ax.addOff, Ax.sizeN, Ax.mkV, Ax.okV, reduceIte, Nat.reduceEqDiff, Nat.reduceAdd, Nat.reduceLeDiff, Nat.reduceLT, Nat.reduceSub, Nat.reduceMul, reduceCtorEq, Int.reduceEq, Int.reduceLT, Int.reduceLE, Int.reduceAdd, Int.reduceSub, Int.reduceNeg, Int.reduceToNat, undef, Value.cells, axL, getAll (n := 3) hb5 rfl, setAll hbr, getAll (n := 3) H11.pget rfl]; rfl) rfl ?_
      | (with_reducible first | refine end_reg (Ev.mono _ _) ?_ | refine end_dreg (Ev.mono _ _) ?_ | refine end_cond (Ev.mono _ _) ?_ | refine end_block (Ev.mono _ _) ?_ | refine end_loop (Ev.mono _ _) ?_))
    exact hq _ _ _ _ (H11.pick 6 [1, 2, 3] rfl) ⟨hd.perm.trans (hu.perm.trans k1), hd.ord, hd.at'⟩
  · have hik : i = k := by omega
    have hb5 := (H7.pick 5 [4] rfl).pget
    have hbr := (H7.pick 6 [5] rfl).pget
    have H8 := (H7.pick 6 [5, 0, 1, 2, 3, 4] rfl).setc [.int .i64 l[i].when, .int .i64 l[i].seq, .int .i64 l[i].x]
    repeat' (first
      | (with_reducible first | refine go_assoc ?_ (Ev.mono _ _) | refine go_skip ?_ | refine go_fin ?_ | refine go_ret ?_ | refine go_ret0 ?_ | refine go_exit ?_ | refine go_exit0 ?_ | refine go_block ?_ | refine n_then ?_ | refine x_then ?_ | refine r_then ?_ | refine n_block ?_ | refine r_block ?_ | refine x_block ?_ | refine x_block_ne ?_ (by decide))
      | (with_reducible refine is_k ?_; refine go_k _ (by simp only [Ax.runK, Ax.runOps, Ax.run1, Ax.wantA, Ax.step, Ax.ev, Ax.evs, Ax.evo, Ax.evp, Ax.look, Ax.putE, Ax.keepE, Ax.argsE, Ax.extr, Ax.binV, Ax.intBin, Ax.unV, Ax.addOff, Ax.sizeN, Ax.mkV, Ax.okV, reduceIte, Nat.reduceEqDiff, Nat.reduceAdd, Nat.reduceLeDiff, Nat.reduceLT, Nat.reduceSub, Nat.reduceMul, reduceCtorEq, Int.reduceEq, Int.reduceLT, Int.reduceLE, Int.reduceAdd, Int.reduceSub, Int.reduceNeg, Int.reduceToNat, undef, Value.cells, axL, getAll (n := 3) hb5 rfl, setAll hbr, getAll (n := 3) H8.pget rfl]; rfl) rfl ?_)
      | (with_reducible refine cond_t ?_ ?_; · simp only [Ax.ev, Ax.look, reduceIte, Nat.reduceEqDiff])
      | (with_reducible refine cond_f ?_ ?_; · simp only [Ax.ev, Ax.look, reduceIte, Nat.reduceEqDiff])
      | (with_reducible refine is_rp ?_; first | refine r_postR rfl ?_ | refine r_postR (by simp only [Ax.result, Ax.resVs, Ax.resV, R19, Ax.look, sizeN, mkV, Nat.reduceEqDiff, reduceIte, axL, getAll (n := 3) hb5 rfl, setAll hbr, getAll (n := 3) H8.pget rfl]; rfl) ?_)
      | (with_reducible refine is_np ?_; first | refine n_postR rfl ?_ | refine n_postR (by simp only [Ax.result, Ax.resVs, Ax.resV, R19, Ax.look, sizeN, mkV, Nat.reduceEqDiff, reduceIte, axL, getAll (n := 3) hb5 rfl, setAll hbr, getAll (n := 3) H8.pget rfl]; rfl) ?_)
      | (first | with_reducible refine is_wd ?_ | with_reducible refine dk_wd ?_); refine go_dt _ (by simp only [Ax.runDK, Ax.runDT, Ax.runDops, Ax.run1d, Ax.recs, Ax.okPair, Ax.idsE, Ax.idsV, AOp.mems, AOp.isWrite, DRec.none, axD, Ax.runK, Ax.runOps, Ax.run1, Ax.wantA, Ax.step, Ax.ev, Ax.evs, Ax.evo, Ax.evp, Ax.look, Ax.putE, Ax.keepE, Ax.argsE, Ax.extr, Ax.binV, Ax.intBin, Ax.unV, Ax.addOff, Ax.sizeN, Ax.mkV, Ax.okV, reduceIte, Nat.reduceEqDiff, Nat.reduceAdd, Nat.reduceLeDiff, Nat.reduceLT, Nat.reduceSub, Nat.reduceMul, reduceCtorEq, Int.reduceEq, Int.reduceLT, Int.reduceLE, Int.reduceAdd, Int.reduceSub, Int.reduceNeg, Int.reduceToNat, undef, Value.cells, axL, getAll (n := 3) hb5 rfl, setAll hbr, getAll (n := 3) H8.pget rfl]; rfl) rfl ?_
      | (with_reducible first | refine end_reg (Ev.mono _ _) ?_ | refine end_dreg (Ev.mono _ _) ?_ | refine end_cond (Ev.mono _ _) ?_ | refine end_block (Ev.mono _ _) ?_ | refine end_loop (Ev.mono _ _) ?_))
    refine hq _ _ _ _ (H8.pick 6 [1, 2, 3] rfl) ?_
    have := rem_last ho ha (by omega)
    rw [← hk, ix_get hkl] at this
    subst hik
    exact this
end Go.Proofs.Ytboclpaokecalaa

/- Law 06: heaps as rows in order: Len, First, Pop, Put. -/
namespace Go.Proofs.Ytboclpaokecalaa
open Go.Ax
open Go.Ax.Enc (enc)

theorem ltI_trans {a b c : It} (h : ltI a b) (k : ltI b c) : ltI a c := by unfold ltI at *; omega
theorem ltI_irrefl (a : It) : ¬ ltI a a := by unfold ltI; omega

theorem ord_min {f : Nat → It} {n : Nat} (h : Ord f n) : ∀ j, j < n → ¬ ltI (f j) (f 0) := by
  intro j
  induction j using Nat.strongRecOn with
  | _ j ih =>
    intro hj
    by_cases h0 : j = 0
    · subst h0; exact ltI_irrefl _
    · have h1 := ih ((j - 1) / 2) (by omega) (by omega)
      have h2 := h j hj (by omega)
      unfold ltI at *; omega

/-- Things in the order of their times. -/
def Sorted (s : List It) : Prop := s.Pairwise ltI

structure HOk (l : List It) (m : List (Int × Int)) (s : List It) : Prop where
  perm : l.Perm s
  ord : Ord (ix l) l.length
  at' : AtOk m l
  sorted : Sorted s

/-- A heap in memory, as what is in it, in order; sq: the number of the next one. -/
def HeapA (hd : Nat) (s : List It) (sq : Int) : Asn := fun hh => ∃ lv av l m, HOk l m s ∧ Star [pts hd [lv, av, .int .i64 sq], SlT lv l, AtA av m] hh

section
variable {R : Nat → Option (List Value)} {F : List Asn} {S : AS} {hd : Nat} {s : List It} {sq : Int}

theorem HeapA.open' (H : St R (HeapA hd s sq :: F) S) : ∃ lv av l m, HOk l m s ∧ St R (pts hd [lv, av, .int .i64 sq] :: SlT lv l :: AtA av m :: F) S := by
  obtain ⟨lv, H⟩ := H.ex
  obtain ⟨av, H⟩ := H.ex
  obtain ⟨l, H⟩ := H.ex
  obtain ⟨m, H⟩ := H.ex
  obtain ⟨h1, H⟩ := H.pure
  exact ⟨lv, av, l, m, h1, St.flat.1 H⟩

theorem HeapA.close {lv av : Value} {l : List It} {m : List (Int × Int)} (H : St R (pts hd [lv, av, .int .i64 sq] :: SlT lv l :: AtA av m :: F) S) (h : HOk l m s) : St R (HeapA hd s sq :: F) S :=
  (St.flat (ps := [pts hd [lv, av, .int .i64 sq], SlT lv l, AtA av m]).2 H).imp fun _ k => ⟨lv, av, l, m, h, k⟩

theorem AtA.get {av : Value} {m : List (Int × Int)} {x : Int} {k : Int} (H : St R (AtA av m :: F) S) (hm : m.lookup x = some k) : ∃ id, av = .map (some id) ∧ St R (MapI (fun n => .int .i64 n) id m :: F) S := by
  rcases H.or with H | H
  · obtain ⟨⟨st, ⟨_, rfl⟩, _⟩, _⟩ := H
    simp at hm
  · obtain ⟨id, H⟩ := H.ex
    obtain ⟨e, H⟩ := H.pure
    exact ⟨id, e, H⟩

theorem AtA.mk {id : Nat} {m : List (Int × Int)} (H : St R (MapI (fun n => .int .i64 n) id m :: F) S) : St R (AtA (.map (some id)) m :: F) S :=
  H.imp fun _ k => .inr ⟨id, rfl, k⟩
end

theorem len_spec (X : Nat → List Value → Option Value) {R : Nat → Option (List Value)} {F : List Asn} {S : AS} {hd : Nat} {s : List It} {sq : Int} (H : St R (HeapA hd s sq :: F) S) {Q : Value → AS → Prop} (hq : Q (.int .i64 s.length) S) : Ev G X 11 [.pointer (some ⟨hd, 0, none⟩)] S Q := by
  obtain ⟨lv, av, l, m, h, H⟩ := HeapA.open' H
  have hb := H.pget
  have hlv := SlT.len (H.pick 2 [1] rfl)
  rw [h.perm.length_eq] at hlv
  refine Ev.fnR (rs := R11) (c := A11) rfl ?_
  unfold A11
  repeat' (first
      | (with_reducible first | refine go_assoc ?_ (Ev.mono _ _) | refine go_skip ?_ | refine go_fin ?_ | refine go_ret ?_ | refine go_ret0 ?_ | refine go_exit ?_ | refine go_exit0 ?_ | refine go_block ?_ | refine n_then ?_ | refine x_then ?_ | refine r_then ?_ | refine n_block ?_ | refine r_block ?_ | refine x_block ?_ | refine x_block_ne ?_ (by decide))
      | (with_reducible refine is_k ?_; refine go_k _ (by simp only [Ax.runK, Ax.runOps, Ax.run1, Ax.wantA, Ax.step, Ax.ev, Ax.evs, Ax.evo, Ax.evp, Ax.look, Ax.putE, Ax.keepE, Ax.argsE, Ax.extr, Ax.binV, Ax.intBin, Ax.unV, Ax.addOff, Ax.sizeN, Ax.mkV, Ax.okV, reduceIte, Nat.reduceEqDiff, Nat.reduceAdd, Nat.reduceLeDiff, Nat.reduceLT, Nat.reduceSub, Nat.reduceMul, reduceCtorEq, Int.reduceEq, Int.reduceLT, Int.reduceLE, Int.reduceAdd, Int.reduceSub, Int.reduceNeg, Int.reduceToNat, undef, Value.cells, axL, get1 hb, hlv]; rfl) rfl ?_)
      | (with_reducible refine cond_t ?_ ?_; · simp only [Ax.ev, Ax.look, reduceIte, Nat.reduceEqDiff])
      | (with_reducible refine cond_f ?_ ?_; · simp only [Ax.ev, Ax.look, reduceIte, Nat.reduceEqDiff])
      | (with_reducible refine is_rp ?_; first | refine r_postR rfl ?_ | refine r_postR (by simp only [Ax.result, Ax.resVs, Ax.resV, R11, Ax.look, sizeN, mkV, Nat.reduceEqDiff, reduceIte, axL, get1 hb, hlv]; rfl) ?_)
      | (with_reducible refine is_np ?_; first | refine n_postR rfl ?_ | refine n_postR (by simp only [Ax.result, Ax.resVs, Ax.resV, R11, Ax.look, sizeN, mkV, Nat.reduceEqDiff, reduceIte, axL, get1 hb, hlv]; rfl) ?_)
      | (first | with_reducible refine is_wd ?_ | with_reducible refine dk_wd ?_); refine go_dt _ (by simp only [Ax.runDK, Ax.runDT, Ax.runDops, Ax.run1d, Ax.recs, Ax.okPair, Ax.idsE, Ax.idsV, AOp.mems, AOp.isWrite, DRec.none, axD, Ax.runK, Ax.runOps, Ax.run1, Ax.wantA, Ax.step, Ax.ev, Ax.evs, Ax.evo, Ax.evp, Ax.look, Ax.putE, Ax.keepE, Ax.argsE, Ax.extr, Ax.binV, Ax.intBin, Ax.unV, Ax.addOff, Ax.sizeN, Ax.mkV, Ax.okV, reduceIte, Nat.reduceEqDiff, Nat.reduceAdd, Nat.reduceLeDiff, Nat.reduceLT, Nat.reduceSub, Nat.reduceMul, reduceCtorEq, Int.reduceEq, Int.reduceLT, Int.reduceLE, Int.reduceAdd, Int.reduceSub, Int.reduceNeg, Int.reduceToNat, undef, Value.cells, axL, get1 hb, hlv]; rfl) rfl ?_
      | (with_reducible first | refine end_reg (Ev.mono _ _) ?_ | refine end_dreg (Ev.mono _ _) ?_ | refine end_cond (Ev.mono _ _) ?_ | refine end_block (Ev.mono _ _) ?_ | refine end_loop (Ev.mono _ _) ?_))
  exact hq

theorem head_eq {l : List It} {m : List (Int × Int)} {a : It} {s : List It} (h : HOk l m (a :: s)) : ∃ h0 : 0 < l.length, l[0] = a ∧ (l.eraseIdx 0).Perm s := by
  have h0 : 0 < l.length := by have := h.perm.length_eq; simp at this; omega
  have he : l[0] = a := by
    have h1 : l[0] ∈ a :: s := h.perm.mem_iff.1 (List.getElem_mem h0)
    rcases List.mem_cons.1 h1 with h1 | h1
    · exact h1
    · exfalso
      have h2 := (List.pairwise_cons.1 h.sorted).1 _ h1
      have h3 : a ∈ l := h.perm.mem_iff.2 (by simp)
      obtain ⟨j, hj, e⟩ := List.mem_iff_getElem.1 h3
      have h4 := ord_min h.ord j hj
      rw [ix_get hj, ix_get h0, e] at h4
      exact h4 h2
  refine ⟨h0, he, ?_⟩
  have hp := h.perm
  cases l with
  | nil => simp at h0
  | cons b l =>
    simp only [List.getElem_cons_zero] at he
    subst he
    simpa using hp.cons_inv

theorem first_spec (X : Nat → List Value → Option Value) {R : Nat → Option (List Value)} {F : List Asn} {S : AS} {hd : Nat} {s : List It} {sq : Int} (H : St R (HeapA hd s sq :: F) S) {Q : Value → AS → Prop}
    (hq0 : s = [] → Q (.tuple #[.int .i64 0, .int .i64 0, .bool false]) S)
    (hq : ∀ a t, s = a :: t → Q (.tuple #[.int .i64 a.when, .int .i64 a.x, .bool true]) S) : Ev G X 14 [.pointer (some ⟨hd, 0, none⟩)] S Q := by
  refine Ev.fnR (rs := R14) (c := A14) rfl ?_
  unfold A14
  repeat' (first
      | (with_reducible first | refine go_assoc ?_ (Ev.mono _ _) | refine go_skip ?_ | refine go_fin ?_ | refine go_ret ?_ | refine go_ret0 ?_ | refine go_exit ?_ | refine go_exit0 ?_ | refine go_block ?_ | refine n_then ?_ | refine x_then ?_ | refine r_then ?_ | refine n_block ?_ | refine r_block ?_ | refine x_block ?_ | refine x_block_ne ?_ (by decide))
      | (with_reducible refine is_k ?_; refine go_k _ (by simp only [Ax.runK, Ax.runOps, Ax.run1, Ax.wantA, Ax.step, Ax.ev, Ax.evs, Ax.evo, Ax.evp, Ax.look, Ax.putE, Ax.keepE, Ax.argsE, Ax.extr, Ax.binV, Ax.intBin, Ax.unV, Ax.addOff, Ax.sizeN, Ax.mkV, Ax.okV, reduceIte, Nat.reduceEqDiff, Nat.reduceAdd, Nat.reduceLeDiff, Nat.reduceLT, Nat.reduceSub, Nat.reduceMul, reduceCtorEq, Int.reduceEq, Int.reduceLT, Int.reduceLE, Int.reduceAdd, Int.reduceSub, Int.reduceNeg, Int.reduceToNat, undef, Value.cells, axL]; rfl) rfl ?_)
      | (with_reducible refine cond_t ?_ ?_; · simp only [Ax.ev, Ax.look, reduceIte, Nat.reduceEqDiff])
      | (with_reducible refine cond_f ?_ ?_; · simp only [Ax.ev, Ax.look, reduceIte, Nat.reduceEqDiff])
      | (with_reducible refine is_rp ?_; first | refine r_postR rfl ?_ | refine r_postR (by simp only [Ax.result, Ax.resVs, Ax.resV, R14, Ax.look, sizeN, mkV, Nat.reduceEqDiff, reduceIte, axL]; rfl) ?_)
      | (with_reducible refine is_np ?_; first | refine n_postR rfl ?_ | refine n_postR (by simp only [Ax.result, Ax.resVs, Ax.resV, R14, Ax.look, sizeN, mkV, Nat.reduceEqDiff, reduceIte, axL]; rfl) ?_)
      | (first | with_reducible refine is_wd ?_ | with_reducible refine dk_wd ?_); refine go_dt _ (by simp only [Ax.runDK, Ax.runDT, Ax.runDops, Ax.run1d, Ax.recs, Ax.okPair, Ax.idsE, Ax.idsV, AOp.mems, AOp.isWrite, DRec.none, axD, Ax.runK, Ax.runOps, Ax.run1, Ax.wantA, Ax.step, Ax.ev, Ax.evs, Ax.evo, Ax.evp, Ax.look, Ax.putE, Ax.keepE, Ax.argsE, Ax.extr, Ax.binV, Ax.intBin, Ax.unV, Ax.addOff, Ax.sizeN, Ax.mkV, Ax.okV, reduceIte, Nat.reduceEqDiff, Nat.reduceAdd, Nat.reduceLeDiff, Nat.reduceLT, Nat.reduceSub, Nat.reduceMul, reduceCtorEq, Int.reduceEq, Int.reduceLT, Int.reduceLE, Int.reduceAdd, Int.reduceSub, Int.reduceNeg, Int.reduceToNat, undef, Value.cells, axL]; rfl) rfl ?_
      | (with_reducible first | refine end_reg (Ev.mono _ _) ?_ | refine end_dreg (Ev.mono _ _) ?_ | refine end_cond (Ev.mono _ _) ?_ | refine end_block (Ev.mono _ _) ?_ | refine end_loop (Ev.mono _ _) ?_))
  repeat' (with_reducible first | refine go_assoc ?_ (Ev.mono _ _) | refine go_skip ?_ | refine go_block ?_ | refine end_reg (Ev.mono _ _) ?_)
  refine go_callN 1 _ (by simp only [Ax.runN, Ax.runK, Ax.runOps, Ax.run1, Ax.wantA, Ax.step, Ax.ev, Ax.evs, Ax.evo, Ax.evp, Ax.look, Ax.putE, Ax.keepE, Ax.argsE, Ax.extr, Ax.binV, Ax.intBin, Ax.unV, Ax.addOff, Ax.sizeN, Ax.mkV, Ax.okV, reduceIte, Nat.reduceEqDiff, Nat.reduceAdd, Nat.reduceLeDiff, Nat.reduceLT, Nat.reduceSub, Nat.reduceMul, reduceCtorEq, Int.reduceEq, Int.reduceLT, Int.reduceLE, Int.reduceAdd, Int.reduceSub, Int.reduceNeg, Int.reduceToNat, undef, Value.cells, axL]; rfl) rfl rfl (by simp only [Ax.wantA, Ax.look, reduceIte, Nat.reduceEqDiff, bq_t, bq_f, Bool.not_true, Bool.not_false]; try rfl) rfl (by simp only [Ax.runK, Ax.runOps, Ax.run1, Ax.wantA, Ax.step, Ax.ev, Ax.evs, Ax.evo, Ax.evp, Ax.look, Ax.putE, Ax.keepE, Ax.argsE, Ax.extr, Ax.binV, Ax.intBin, Ax.unV, Ax.addOff, Ax.sizeN, Ax.mkV, Ax.okV, reduceIte, Nat.reduceEqDiff, Nat.reduceAdd, Nat.reduceLeDiff, Nat.reduceLT, Nat.reduceSub, Nat.reduceMul, reduceCtorEq, Int.reduceEq, Int.reduceLT, Int.reduceLE, Int.reduceAdd, Int.reduceSub, Int.reduceNeg, Int.reduceToNat, undef, Value.cells, axL]; try rfl) ?_
  refine len_spec X H ?_
  cases s with
  | nil =>
    repeat' (first
      | (with_reducible first | refine go_assoc ?_ (Ev.mono _ _) | refine go_skip ?_ | refine go_fin ?_ | refine go_ret ?_ | refine go_ret0 ?_ | refine go_exit ?_ | refine go_exit0 ?_ | refine go_block ?_ | refine n_then ?_ | refine x_then ?_ | refine r_then ?_ | refine n_block ?_ | refine r_block ?_ | refine x_block ?_ | refine x_block_ne ?_ (by decide))
      | (with_reducible refine is_k ?_; refine go_k _ (by simp only [Ax.runK, Ax.runOps, Ax.run1, Ax.wantA, Ax.step, Ax.ev, Ax.evs, Ax.evo, Ax.evp, Ax.look, Ax.putE, Ax.keepE, Ax.argsE, Ax.extr, Ax.binV, Ax.intBin, Ax.unV, Ax.addOff, Ax.sizeN, Ax.mkV, Ax.okV, reduceIte, Nat.reduceEqDiff, Nat.reduceAdd, Nat.reduceLeDiff, Nat.reduceLT, Nat.reduceSub, Nat.reduceMul, reduceCtorEq, Int.reduceEq, Int.reduceLT, Int.reduceLE, Int.reduceAdd, Int.reduceSub, Int.reduceNeg, Int.reduceToNat, undef, Value.cells, axL]; rfl) rfl ?_)
      | (with_reducible refine cond_t ?_ ?_; · simp only [Ax.ev, Ax.look, reduceIte, Nat.reduceEqDiff])
      | (with_reducible refine cond_f ?_ ?_; · simp only [Ax.ev, Ax.look, reduceIte, Nat.reduceEqDiff])
      | (with_reducible refine is_rp ?_; first | refine r_postR rfl ?_ | refine r_postR (by simp only [Ax.result, Ax.resVs, Ax.resV, R14, Ax.look, sizeN, mkV, Nat.reduceEqDiff, reduceIte, axL]; rfl) ?_)
      | (with_reducible refine is_np ?_; first | refine n_postR rfl ?_ | refine n_postR (by simp only [Ax.result, Ax.resVs, Ax.resV, R14, Ax.look, sizeN, mkV, Nat.reduceEqDiff, reduceIte, axL]; rfl) ?_)
      | (first | with_reducible refine is_wd ?_ | with_reducible refine dk_wd ?_); refine go_dt _ (by simp only [Ax.runDK, Ax.runDT, Ax.runDops, Ax.run1d, Ax.recs, Ax.okPair, Ax.idsE, Ax.idsV, AOp.mems, AOp.isWrite, DRec.none, axD, Ax.runK, Ax.runOps, Ax.run1, Ax.wantA, Ax.step, Ax.ev, Ax.evs, Ax.evo, Ax.evp, Ax.look, Ax.putE, Ax.keepE, Ax.argsE, Ax.extr, Ax.binV, Ax.intBin, Ax.unV, Ax.addOff, Ax.sizeN, Ax.mkV, Ax.okV, reduceIte, Nat.reduceEqDiff, Nat.reduceAdd, Nat.reduceLeDiff, Nat.reduceLT, Nat.reduceSub, Nat.reduceMul, reduceCtorEq, Int.reduceEq, Int.reduceLT, Int.reduceLE, Int.reduceAdd, Int.reduceSub, Int.reduceNeg, Int.reduceToNat, undef, Value.cells, axL]; rfl) rfl ?_
      | (with_reducible first | refine end_reg (Ev.mono _ _) ?_ | refine end_dreg (Ev.mono _ _) ?_ | refine end_cond (Ev.mono _ _) ?_ | refine end_block (Ev.mono _ _) ?_ | refine end_loop (Ev.mono _ _) ?_))
    exact hq0 rfl
  | cons a t =>
    have hne : ¬ ((a :: t).length : Int) = 0 := by simp; omega
    rw [List.length_cons] at hne
    obtain ⟨lv, av, l, m, h, H⟩ := HeapA.open' H
    obtain ⟨h0, he, _⟩ := head_eq h
    have hb := H.pget
    obtain ⟨b, c, e1, e2, e3, e4, e5, e6⟩ := itAt (H.pick 3 [1, 0, 2] rfl) h0
    rw [he] at e3 e4 e5 e6
    rw [cast0] at e1
    repeat' (first
      | (with_reducible first | refine go_assoc ?_ (Ev.mono _ _) | refine go_skip ?_ | refine go_fin ?_ | refine go_ret ?_ | refine go_ret0 ?_ | refine go_exit ?_ | refine go_exit0 ?_ | refine go_block ?_ | refine n_then ?_ | refine x_then ?_ | refine r_then ?_ | refine n_block ?_ | refine r_block ?_ | refine x_block ?_ | refine x_block_ne ?_ (by decide))
      | (with_reducible refine is_k ?_; refine go_k _ (by simp only [Ax.runK, Ax.runOps, Ax.run1, Ax.wantA, Ax.step, Ax.ev, Ax.evs, Ax.evo, Ax.evp, Ax.look, Ax.putE, Ax.keepE, Ax.argsE, Ax.extr, Ax.binV, Ax.intBin, Ax.unV, Ax.addOff, Ax.sizeN, Ax.mkV, Ax.okV, reduceIte, Nat.reduceEqDiff, Nat.reduceAdd, Nat.reduceLeDiff, Nat.reduceLT, Nat.reduceSub, Nat.reduceMul, reduceCtorEq, Int.reduceEq, Int.reduceLT, Int.reduceLE, Int.reduceAdd, Int.reduceSub, Int.reduceNeg, Int.reduceToNat, undef, Value.cells, axL, hne, get1 hb, e1, e4, e6]; rfl) rfl ?_)
      | (with_reducible refine cond_t ?_ ?_; · simp only [Ax.ev, Ax.look, reduceIte, Nat.reduceEqDiff])
      | (with_reducible refine cond_f ?_ ?_; · simp only [Ax.ev, Ax.look, reduceIte, Nat.reduceEqDiff])
      | (with_reducible refine is_rp ?_; first | refine r_postR rfl ?_ | refine r_postR (by simp only [Ax.result, Ax.resVs, Ax.resV, R14, Ax.look, sizeN, mkV, Nat.reduceEqDiff, reduceIte, axL, hne, get1 hb, e1, e4, e6]; rfl) ?_)
      | (with_reducible refine is_np ?_; first | refine n_postR rfl ?_ | refine n_postR (by simp only [Ax.result, Ax.resVs, Ax.resV, R14, Ax.look, sizeN, mkV, Nat.reduceEqDiff, reduceIte, axL, hne, get1 hb, e1, e4, e6]; rfl) ?_)
      | (first | with_reducible refine is_wd ?_ | with_reducible refine dk_wd ?_); refine go_dt _ (by simp only [Ax.runDK, Ax.runDT, Ax.runDops, Ax.run1d, Ax.recs, Ax.okPair, Ax.idsE, Ax.idsV, AOp.mems, AOp.isWrite, DRec.none, axD, Ax.runK, Ax.runOps, Ax.run1, Ax.wantA, Ax.step, Ax.ev, Ax.evs, Ax.evo, Ax.evp, Ax.look, Ax.putE, Ax.keepE, Ax.argsE, Ax.extr, Ax.binV, Ax.intBin, Ax.unV, Ax.addOff, Ax.sizeN, Ax.mkV, Ax.okV, reduceIte, Nat.reduceEqDiff, Nat.reduceAdd, Nat.reduceLeDiff, Nat.reduceLT, Nat.reduceSub, Nat.reduceMul, reduceCtorEq, Int.reduceEq, Int.reduceLT, Int.reduceLE, Int.reduceAdd, Int.reduceSub, Int.reduceNeg, Int.reduceToNat, undef, Value.cells, axL, hne, get1 hb, e1, e4, e6]; rfl) rfl ?_
      | (with_reducible first | refine end_reg (Ev.mono _ _) ?_ | refine end_dreg (Ev.mono _ _) ?_ | refine end_cond (Ev.mono _ _) ?_ | refine end_block (Ev.mono _ _) ?_ | refine end_loop (Ev.mono _ _) ?_))
    exact hq a t rfl

theorem pop_spec (X : Nat → List Value → Option Value) {R : Nat → Option (List Value)} {F : List Asn} {S : AS} {hd : Nat} {s : List It} {sq : Int} (H : St R (HeapA hd s sq :: F) S) (hn : s.length < 1000000) {Q : Value → AS → Prop}
    (hq0 : s = [] → Q (.tuple #[.int .i64 0, .int .i64 0, .bool false]) S)
    (hq : ∀ a t S', s = a :: t → St R (HeapA hd t sq :: F) S' → Q (.tuple #[.int .i64 a.when, .int .i64 a.x, .bool true]) S') : Ev G X 8 [.pointer (some ⟨hd, 0, none⟩)] S Q := by
  refine Ev.fnR (rs := R8) (c := A8) rfl ?_
  unfold A8
  repeat' (first
      | (with_reducible first | refine go_assoc ?_ (Ev.mono _ _) | refine go_skip ?_ | refine go_fin ?_ | refine go_ret ?_ | refine go_ret0 ?_ | refine go_exit ?_ | refine go_exit0 ?_ | refine go_block ?_ | refine n_then ?_ | refine x_then ?_ | refine r_then ?_ | refine n_block ?_ | refine r_block ?_ | refine x_block ?_ | refine x_block_ne ?_ (by decide))
      | (with_reducible refine is_k ?_; refine go_k _ (by simp only [Ax.runK, Ax.runOps, Ax.run1, Ax.wantA, Ax.step, Ax.ev, Ax.evs, Ax.evo, Ax.evp, Ax.look, Ax.putE, Ax.keepE, Ax.argsE, Ax.extr, Ax.binV, Ax.intBin, Ax.unV, Ax.addOff, Ax.sizeN, Ax.mkV, Ax.okV, reduceIte, Nat.reduceEqDiff, Nat.reduceAdd, Nat.reduceLeDiff, Nat.reduceLT, Nat.reduceSub, Nat.reduceMul, reduceCtorEq, Int.reduceEq, Int.reduceLT, Int.reduceLE, Int.reduceAdd, Int.reduceSub, Int.reduceNeg, Int.reduceToNat, undef, Value.cells, axL]; rfl) rfl ?_)
      | (with_reducible refine cond_t ?_ ?_; · simp only [Ax.ev, Ax.look, reduceIte, Nat.reduceEqDiff])
      | (with_reducible refine cond_f ?_ ?_; · simp only [Ax.ev, Ax.look, reduceIte, Nat.reduceEqDiff])
      | (with_reducible refine is_rp ?_; first | refine r_postR rfl ?_ | refine r_postR (by simp only [Ax.result, Ax.resVs, Ax.resV, R8, Ax.look, sizeN, mkV, Nat.reduceEqDiff, reduceIte, axL]; rfl) ?_)
      | (with_reducible refine is_np ?_; first | refine n_postR rfl ?_ | refine n_postR (by simp only [Ax.result, Ax.resVs, Ax.resV, R8, Ax.look, sizeN, mkV, Nat.reduceEqDiff, reduceIte, axL]; rfl) ?_)
      | (first | with_reducible refine is_wd ?_ | with_reducible refine dk_wd ?_); refine go_dt _ (by simp only [Ax.runDK, Ax.runDT, Ax.runDops, Ax.run1d, Ax.recs, Ax.okPair, Ax.idsE, Ax.idsV, AOp.mems, AOp.isWrite, DRec.none, axD, Ax.runK, Ax.runOps, Ax.run1, Ax.wantA, Ax.step, Ax.ev, Ax.evs, Ax.evo, Ax.evp, Ax.look, Ax.putE, Ax.keepE, Ax.argsE, Ax.extr, Ax.binV, Ax.intBin, Ax.unV, Ax.addOff, Ax.sizeN, Ax.mkV, Ax.okV, reduceIte, Nat.reduceEqDiff, Nat.reduceAdd, Nat.reduceLeDiff, Nat.reduceLT, Nat.reduceSub, Nat.reduceMul, reduceCtorEq, Int.reduceEq, Int.reduceLT, Int.reduceLE, Int.reduceAdd, Int.reduceSub, Int.reduceNeg, Int.reduceToNat, undef, Value.cells, axL]; rfl) rfl ?_
      | (with_reducible first | refine end_reg (Ev.mono _ _) ?_ | refine end_dreg (Ev.mono _ _) ?_ | refine end_cond (Ev.mono _ _) ?_ | refine end_block (Ev.mono _ _) ?_ | refine end_loop (Ev.mono _ _) ?_))
  repeat' (with_reducible first | refine go_assoc ?_ (Ev.mono _ _) | refine go_skip ?_ | refine go_block ?_ | refine end_reg (Ev.mono _ _) ?_)
  refine go_callN 1 _ (by simp only [Ax.runN, Ax.runK, Ax.runOps, Ax.run1, Ax.wantA, Ax.step, Ax.ev, Ax.evs, Ax.evo, Ax.evp, Ax.look, Ax.putE, Ax.keepE, Ax.argsE, Ax.extr, Ax.binV, Ax.intBin, Ax.unV, Ax.addOff, Ax.sizeN, Ax.mkV, Ax.okV, reduceIte, Nat.reduceEqDiff, Nat.reduceAdd, Nat.reduceLeDiff, Nat.reduceLT, Nat.reduceSub, Nat.reduceMul, reduceCtorEq, Int.reduceEq, Int.reduceLT, Int.reduceLE, Int.reduceAdd, Int.reduceSub, Int.reduceNeg, Int.reduceToNat, undef, Value.cells, axL]; rfl) rfl rfl (by simp only [Ax.wantA, Ax.look, reduceIte, Nat.reduceEqDiff, bq_t, bq_f, Bool.not_true, Bool.not_false]; try rfl) rfl (by simp only [Ax.runK, Ax.runOps, Ax.run1, Ax.wantA, Ax.step, Ax.ev, Ax.evs, Ax.evo, Ax.evp, Ax.look, Ax.putE, Ax.keepE, Ax.argsE, Ax.extr, Ax.binV, Ax.intBin, Ax.unV, Ax.addOff, Ax.sizeN, Ax.mkV, Ax.okV, reduceIte, Nat.reduceEqDiff, Nat.reduceAdd, Nat.reduceLeDiff, Nat.reduceLT, Nat.reduceSub, Nat.reduceMul, reduceCtorEq, Int.reduceEq, Int.reduceLT, Int.reduceLE, Int.reduceAdd, Int.reduceSub, Int.reduceNeg, Int.reduceToNat, undef, Value.cells, axL]; try rfl) ?_
  refine len_spec X H ?_
  cases s with
  | nil =>
    repeat' (first
      | (with_reducible first | refine go_assoc ?_ (Ev.mono _ _) | refine go_skip ?_ | refine go_fin ?_ | refine go_ret ?_ | refine go_ret0 ?_ | refine go_exit ?_ | refine go_exit0 ?_ | refine go_block ?_ | refine n_then ?_ | refine x_then ?_ | refine r_then ?_ | refine n_block ?_ | refine r_block ?_ | refine x_block ?_ | refine x_block_ne ?_ (by decide))
      | (with_reducible refine is_k ?_; refine go_k _ (by simp only [Ax.runK, Ax.runOps, Ax.run1, Ax.wantA, Ax.step, Ax.ev, Ax.evs, Ax.evo, Ax.evp, Ax.look, Ax.putE, Ax.keepE, Ax.argsE, Ax.extr, Ax.binV, Ax.intBin, Ax.unV, Ax.addOff, Ax.sizeN, Ax.mkV, Ax.okV, reduceIte, Nat.reduceEqDiff, Nat.reduceAdd, Nat.reduceLeDiff, Nat.reduceLT, Nat.reduceSub, Nat.reduceMul, reduceCtorEq, Int.reduceEq, Int.reduceLT, Int.reduceLE, Int.reduceAdd, Int.reduceSub, Int.reduceNeg, Int.reduceToNat, undef, Value.cells, axL]; rfl) rfl ?_)
      | (with_reducible refine cond_t ?_ ?_; · simp only [Ax.ev, Ax.look, reduceIte, Nat.reduceEqDiff])
      | (with_reducible refine cond_f ?_ ?_; · simp only [Ax.ev, Ax.look, reduceIte, Nat.reduceEqDiff])
      | (with_reducible refine is_rp ?_; first | refine r_postR rfl ?_ | refine r_postR (by simp only [Ax.result, Ax.resVs, Ax.resV, R8, Ax.look, sizeN, mkV, Nat.reduceEqDiff, reduceIte, axL]; rfl) ?_)
      | (with_reducible refine is_np ?_; first | refine n_postR rfl ?_ | refine n_postR (by simp only [Ax.result, Ax.resVs, Ax.resV, R8, Ax.look, sizeN, mkV, Nat.reduceEqDiff, reduceIte, axL]; rfl) ?_)
      | (first | with_reducible refine is_wd ?_ | with_reducible refine dk_wd ?_); refine go_dt _ (by simp only [Ax.runDK, Ax.runDT, Ax.runDops, Ax.run1d, Ax.recs, Ax.okPair, Ax.idsE, Ax.idsV, AOp.mems, AOp.isWrite, DRec.none, axD, Ax.runK, Ax.runOps, Ax.run1, Ax.wantA, Ax.step, Ax.ev, Ax.evs, Ax.evo, Ax.evp, Ax.look, Ax.putE, Ax.keepE, Ax.argsE, Ax.extr, Ax.binV, Ax.intBin, Ax.unV, Ax.addOff, Ax.sizeN, Ax.mkV, Ax.okV, reduceIte, Nat.reduceEqDiff, Nat.reduceAdd, Nat.reduceLeDiff, Nat.reduceLT, Nat.reduceSub, Nat.reduceMul, reduceCtorEq, Int.reduceEq, Int.reduceLT, Int.reduceLE, Int.reduceAdd, Int.reduceSub, Int.reduceNeg, Int.reduceToNat, undef, Value.cells, axL]; rfl) rfl ?_
      | (with_reducible first | refine end_reg (Ev.mono _ _) ?_ | refine end_dreg (Ev.mono _ _) ?_ | refine end_cond (Ev.mono _ _) ?_ | refine end_block (Ev.mono _ _) ?_ | refine end_loop (Ev.mono _ _) ?_))
    exact hq0 rfl
  | cons a t =>
    have hne : ¬ ((a :: t).length : Int) = 0 := by simp; omega
    rw [List.length_cons] at hne
    obtain ⟨lv, av, l, m, h, H⟩ := HeapA.open' H
    obtain ⟨h0, he, hp⟩ := head_eq h
    obtain ⟨id, rfl, H⟩ := AtA.get (H.pick 3 [2, 0, 1] rfl) (h.at'.at' 0 h0)
    repeat' (first
      | (with_reducible first | refine go_assoc ?_ (Ev.mono _ _) | refine go_skip ?_ | refine go_fin ?_ | refine go_ret ?_ | refine go_ret0 ?_ | refine go_exit ?_ | refine go_exit0 ?_ | refine go_block ?_ | refine n_then ?_ | refine x_then ?_ | refine r_then ?_ | refine n_block ?_ | refine r_block ?_ | refine x_block ?_ | refine x_block_ne ?_ (by decide))
      | (with_reducible refine is_k ?_; refine go_k _ (by simp only [Ax.runK, Ax.runOps, Ax.run1, Ax.wantA, Ax.step, Ax.ev, Ax.evs, Ax.evo, Ax.evp, Ax.look, Ax.putE, Ax.keepE, Ax.argsE, Ax.extr, Ax.binV, Ax.intBin, Ax.unV, Ax.addOff, Ax.sizeN, Ax.mkV, Ax.okV, reduceIte, Nat.reduceEqDiff, Nat.reduceAdd, Nat.reduceLeDiff, Nat.reduceLT, Nat.reduceSub, Nat.reduceMul, reduceCtorEq, Int.reduceEq, Int.reduceLT, Int.reduceLE, Int.reduceAdd, Int.reduceSub, Int.reduceNeg, Int.reduceToNat, undef, Value.cells, axL, hne]; rfl) rfl ?_)
      | (with_reducible refine cond_t ?_ ?_; · simp only [Ax.ev, Ax.look, reduceIte, Nat.reduceEqDiff])
      | (with_reducible refine cond_f ?_ ?_; · simp only [Ax.ev, Ax.look, reduceIte, Nat.reduceEqDiff])
      | (with_reducible refine is_rp ?_; first | refine r_postR rfl ?_ | refine r_postR (by simp only [Ax.result, Ax.resVs, Ax.resV, R8, Ax.look, sizeN, mkV, Nat.reduceEqDiff, reduceIte, axL, hne]; rfl) ?_)
      | (with_reducible refine is_np ?_; first | refine n_postR rfl ?_ | refine n_postR (by simp only [Ax.result, Ax.resVs, Ax.resV, R8, Ax.look, sizeN, mkV, Nat.reduceEqDiff, reduceIte, axL, hne]; rfl) ?_)
      | (first | with_reducible refine is_wd ?_ | with_reducible refine dk_wd ?_); refine go_dt _ (by simp only [Ax.runDK, Ax.runDT, Ax.runDops, Ax.run1d, Ax.recs, Ax.okPair, Ax.idsE, Ax.idsV, AOp.mems, AOp.isWrite, DRec.none, axD, Ax.runK, Ax.runOps, Ax.run1, Ax.wantA, Ax.step, Ax.ev, Ax.evs, Ax.evo, Ax.evp, Ax.look, Ax.putE, Ax.keepE, Ax.argsE, Ax.extr, Ax.binV, Ax.intBin, Ax.unV, Ax.addOff, Ax.sizeN, Ax.mkV, Ax.okV, reduceIte, Nat.reduceEqDiff, Nat.reduceAdd, Nat.reduceLeDiff, Nat.reduceLT, Nat.reduceSub, Nat.reduceMul, reduceCtorEq, Int.reduceEq, Int.reduceLT, Int.reduceLE, Int.reduceAdd, Int.reduceSub, Int.reduceNeg, Int.reduceToNat, undef, Value.cells, axL, hne]; rfl) rfl ?_
      | (with_reducible first | refine end_reg (Ev.mono _ _) ?_ | refine end_dreg (Ev.mono _ _) ?_ | refine end_cond (Ev.mono _ _) ?_ | refine end_block (Ev.mono _ _) ?_ | refine end_loop (Ev.mono _ _) ?_))
    repeat' (with_reducible first | refine go_assoc ?_ (Ev.mono _ _) | refine go_skip ?_ | refine go_block ?_ | refine end_reg (Ev.mono _ _) ?_)
    refine go_callN 1 _ (by simp only [Ax.runN, Ax.runK, Ax.runOps, Ax.run1, Ax.wantA, Ax.step, Ax.ev, Ax.evs, Ax.evo, Ax.evp, Ax.look, Ax.putE, Ax.keepE, Ax.argsE, Ax.extr, Ax.binV, Ax.intBin, Ax.unV, Ax.addOff, Ax.sizeN, Ax.mkV, Ax.okV, reduceIte, Nat.reduceEqDiff, Nat.reduceAdd, Nat.reduceLeDiff, Nat.reduceLT, Nat.reduceSub, Nat.reduceMul, reduceCtorEq, Int.reduceEq, Int.reduceLT, Int.reduceLE, Int.reduceAdd, Int.reduceSub, Int.reduceNeg, Int.reduceToNat, undef, Value.cells, axL]; rfl) rfl rfl (by simp only [Ax.wantA, Ax.look, reduceIte, Nat.reduceEqDiff, bq_t, bq_f, Bool.not_true, Bool.not_false]; try rfl) rfl (by simp only [Ax.runK, Ax.runOps, Ax.run1, Ax.wantA, Ax.step, Ax.ev, Ax.evs, Ax.evo, Ax.evp, Ax.look, Ax.putE, Ax.keepE, Ax.argsE, Ax.extr, Ax.binV, Ax.intBin, Ax.unV, Ax.addOff, Ax.sizeN, Ax.mkV, Ax.okV, reduceIte, Nat.reduceEqDiff, Nat.reduceAdd, Nat.reduceLeDiff, Nat.reduceLT, Nat.reduceSub, Nat.reduceMul, reduceCtorEq, Int.reduceEq, Int.reduceLT, Int.reduceLE, Int.reduceAdd, Int.reduceSub, Int.reduceNeg, Int.reduceToNat, undef, Value.cells, axL]; try rfl) ?_
    refine remove_spec X (i := 0) (H.pick 3 [1, 2, 0] rfl) h0 (by rw [h.perm.length_eq]; exact hn) h.ord h.at' (fun S' lv' l' m' H' hr => ?_)
    rw [he]
    unfold itV
    have H2 := H'.newc [.int .i64 a.when, .int .i64 a.seq, .int .i64 a.x]
    have hb := H2.pget
    repeat' (first
      | (with_reducible first | refine go_assoc ?_ (Ev.mono _ _) | refine go_skip ?_ | refine go_fin ?_ | refine go_ret ?_ | refine go_ret0 ?_ | refine go_exit ?_ | refine go_exit0 ?_ | refine go_block ?_ | refine n_then ?_ | refine x_then ?_ | refine r_then ?_ | refine n_block ?_ | refine r_block ?_ | refine x_block ?_ | refine x_block_ne ?_ (by decide))
      | (with_reducible refine is_k ?_; refine go_k _ (by simp only [Ax.runK, Ax.runOps, Ax.run1, Ax.wantA, Ax.step, Ax.ev, Ax.evs, Ax.evo, Ax.evp, Ax.look, Ax.putE, Ax.keepE, Ax.argsE, Ax.extr, Ax.binV, Ax.intBin, Ax.unV, Ax.addOff, Ax.sizeN, Ax.mkV, Ax.okV, reduceIte, Nat.reduceEqDiff, Nat.reduceAdd, Nat.reduceLeDiff, Nat.reduceLT, Nat.reduceSub, Nat.reduceMul, reduceCtorEq, Int.reduceEq, Int.reduceLT, Int.reduceLE, Int.reduceAdd, Int.reduceSub, Int.reduceNeg, Int.reduceToNat, undef, Value.cells, axL, get1 hb]; rfl) rfl ?_)
      | (with_reducible refine cond_t ?_ ?_; · simp only [Ax.ev, Ax.look, reduceIte, Nat.reduceEqDiff])
      | (with_reducible refine cond_f ?_ ?_; · simp only [Ax.ev, Ax.look, reduceIte, Nat.reduceEqDiff])
      | (with_reducible refine is_rp ?_; first | refine r_postR rfl ?_ | refine r_postR (by simp only [Ax.result, Ax.resVs, Ax.resV, R8, Ax.look, sizeN, mkV, Nat.reduceEqDiff, reduceIte, axL, get1 hb]; rfl) ?_)
      | (with_reducible refine is_np ?_; first | refine n_postR rfl ?_ | refine n_postR (by simp only [Ax.result, Ax.resVs, Ax.resV, R8, Ax.look, sizeN, mkV, Nat.reduceEqDiff, reduceIte, axL, get1 hb]; rfl) ?_)
      | (first | with_reducible refine is_wd ?_ | with_reducible refine dk_wd ?_); refine go_dt _ (by simp only [Ax.runDK, Ax.runDT, Ax.runDops, Ax.run1d, Ax.recs, Ax.okPair, Ax.idsE, Ax.idsV, AOp.mems, AOp.isWrite, DRec.none, axD, Ax.runK, Ax.runOps, Ax.run1, Ax.wantA, Ax.step, Ax.ev, Ax.evs, Ax.evo, Ax.evp, Ax.look, Ax.putE, Ax.keepE, Ax.argsE, Ax.extr, Ax.binV, Ax.intBin, Ax.unV, Ax.addOff, Ax.sizeN, Ax.mkV, Ax.okV, reduceIte, Nat.reduceEqDiff, Nat.reduceAdd, Nat.reduceLeDiff, Nat.reduceLT, Nat.reduceSub, Nat.reduceMul, reduceCtorEq, Int.reduceEq, Int.reduceLT, Int.reduceLE, Int.reduceAdd, Int.reduceSub, Int.reduceNeg, Int.reduceToNat, undef, Value.cells, axL, get1 hb]; rfl) rfl ?_
      | (with_reducible first | refine end_reg (Ev.mono _ _) ?_ | refine end_dreg (Ev.mono _ _) ?_ | refine end_cond (Ev.mono _ _) ?_ | refine end_block (Ev.mono _ _) ?_ | refine end_loop (Ev.mono _ _) ?_))
    refine hq a t _ rfl ?_
    have H3 := AtA.mk (H2.pick 4 [3, 1, 2] rfl)
    exact HeapA.close (H3.pick 3 [1, 2, 0] rfl) ⟨hr.perm.trans hp, hr.ord, hr.at', (List.pairwise_cons.1 h.sorted).2⟩

/-- A thing comes into the row, behind all that are due then or ahead. -/
def insS (it : It) : List It → List It
  | [] => [it]
  | y :: s => if it.when < y.when then it :: y :: s else y :: insS it s

theorem insS_perm (it : It) : ∀ s, (insS it s).Perm (it :: s)
  | [] => .refl _
  | y :: s => by
    simp only [insS]
    split
    · exact .refl _
    · exact ((insS_perm it s).cons y).trans (List.Perm.swap _ _ _)

theorem insS_sorted {it : It} : ∀ {s : List It}, Sorted s → (∀ y ∈ s, y.seq < it.seq) → Sorted (insS it s)
  | [], _, _ => by simp [insS, Sorted]
  | y :: s, h, hs => by
    obtain ⟨h1, h2⟩ := List.pairwise_cons.1 h
    simp only [insS]
    split
    · rename_i hlt
      refine List.pairwise_cons.2 ⟨fun z hz => ?_, h⟩
      rcases List.mem_cons.1 hz with rfl | hz
      · exact .inl hlt
      · have := h1 z hz
        unfold ltI at *; omega
    · rename_i hge
      refine List.pairwise_cons.2 ⟨fun z hz => ?_, insS_sorted h2 (fun z hz => hs z (by simp [hz]))⟩
      rcases List.mem_cons.1 ((insS_perm it s).mem_iff.1 hz) with rfl | hz
      · have := hs y (by simp)
        unfold ltI; omega
      · exact h1 z hz

theorem AtA.ask {R : Nat → Option (List Value)} {F : List Asn} {S : AS} {av : Value} {m : List (Int × Int)} (H : St R (AtA av m :: F) S) (x : Int) : ∃ bn v, nilEq .map av (.map none) = some bn ∧ lookM .int (.int .i64 0) S av (.int .i64 x) true = some (.tuple #[.int .i64 v, .bool (m.lookup x).isSome]) ∧ (∀ k, m.lookup x = some k → v = k) ∧
    (bn = true → av = .map none ∧ m = []) ∧ (bn = false → ∃ id, av = .map (some id) ∧ St R (MapI (fun n => .int .i64 n) id m :: F) S) := by
  rcases H.or with H | H
  · obtain ⟨⟨st, ⟨rfl, rfl⟩, _⟩, _⟩ := H
    exact ⟨true, 0, rfl, rfl, fun k h => by simp at h, fun _ => ⟨rfl, rfl⟩, fun h => by cases h⟩
  · obtain ⟨id, H⟩ := H.ex
    obtain ⟨rfl, H'⟩ := H.pure
    have h1 := MapI.lookup H' (.int .i64 0) x true
    cases hm : m.lookup x with
    | none =>
      rw [hm] at h1
      refine ⟨false, 0, rfl, h1, ?_, ?_, fun _ => ⟨id, rfl, H'⟩⟩
      · intro k h; cases h
      · intro h; cases h
    | some k =>
      rw [hm] at h1
      refine ⟨false, k, rfl, h1, ?_, ?_, fun _ => ⟨id, rfl, H'⟩⟩
      · intro k' h; cases h; rfl
      · intro h; cases h

theorem at_mem {m : List (Int × Int)} {l : List It} {s : List It} (h : HOk l m s) (x : Int) : (m.lookup x).isSome = true ↔ x ∈ s.map (·.x) := by
  constructor
  · intro hs
    obtain ⟨k, hk⟩ := Option.isSome_iff_exists.1 hs
    exact (h.perm.map (·.x)).mem_iff.1 (h.at'.dom x k hk)
  · intro hm
    obtain ⟨j, hj, rfl⟩ := ix_mem ((h.perm.map (·.x)).mem_iff.2 hm)
    rw [h.at'.at' j hj]; rfl

theorem put_spec (X : Nat → List Value → Option Value) {R : Nat → Option (List Value)} {F : List Asn} {S : AS} {hd : Nat} {s : List It} {sq : Int} (H : St R (HeapA hd s sq :: F) S) (hn : s.length < 900000) (hs : ∀ y ∈ s, y.seq < sq) (hsq : I64 (sq + 1)) (w x : Int) {Q : Value → AS → Prop}
    (hq0 : x ∈ s.map (·.x) → Q (.bool false) S)
    (hq : x ∉ s.map (·.x) → ∀ S', St R (HeapA hd (insS ⟨w, sq, x⟩ s) (sq + 1) :: F) S' → Q (.bool true) S') : Ev G X 7 [.pointer (some ⟨hd, 0, none⟩), .int .i64 w, .int .i64 x] S Q := by
  refine Ev.fnR (rs := R7) (c := A7) rfl ?_
  unfold A7
  obtain ⟨lv, av, l, m, h, H1⟩ := HeapA.open' H
  have hb := H1.pget
  obtain ⟨bn, v, f1, f2, _, f4, f5⟩ := AtA.ask (H1.pick 3 [2, 0, 1] rfl) x
  have hmem := at_mem h x
  have hlen := h.perm.length_eq
  cases hb2 : (m.lookup x).isSome with
  | true =>
    rw [hb2] at f2 hmem
    repeat' (first
      | (with_reducible first | refine go_assoc ?_ (Ev.mono _ _) | refine go_skip ?_ | refine go_fin ?_ | refine go_ret ?_ | refine go_ret0 ?_ | refine go_exit ?_ | refine go_exit0 ?_ | refine go_block ?_ | refine n_then ?_ | refine x_then ?_ | refine r_then ?_ | refine n_block ?_ | refine r_block ?_ | refine x_block ?_ | refine x_block_ne ?_ (by decide))
      | (with_reducible refine is_k ?_; refine go_k _ (by simp only [Ax.runK, Ax.runOps, Ax.run1, Ax.wantA, Ax.step, Ax.ev, Ax.evs, Ax.evo, Ax.evp, Ax.look, Ax.putE, Ax.keepE, Ax.argsE, Ax.extr, Ax.binV, Ax.intBin, Ax.unV, Ax.addOff, Ax.sizeN, Ax.mkV, Ax.okV, reduceIte, Nat.reduceEqDiff, Nat.reduceAdd, Nat.reduceLeDiff, Nat.reduceLT, Nat.reduceSub, Nat.reduceMul, reduceCtorEq, Int.reduceEq, Int.reduceLT, Int.reduceLE, Int.reduceAdd, Int.reduceSub, Int.reduceNeg, Int.reduceToNat, undef, Value.cells, axL, get1 hb, f1, f2]; rfl) rfl ?_)
      | (with_reducible refine cond_t ?_ ?_; · simp only [Ax.ev, Ax.look, reduceIte, Nat.reduceEqDiff])
      | (with_reducible refine cond_f ?_ ?_; · simp only [Ax.ev, Ax.look, reduceIte, Nat.reduceEqDiff])
      | (with_reducible refine is_rp ?_; first | refine r_postR rfl ?_ | refine r_postR (by simp only [Ax.result, Ax.resVs, Ax.resV, R7, Ax.look, sizeN, mkV, Nat.reduceEqDiff, reduceIte, axL, get1 hb, f1, f2]; rfl) ?_)
      | (with_reducible refine is_np ?_; first | refine n_postR rfl ?_ | refine n_postR (by simp only [Ax.result, Ax.resVs, Ax.resV, R7, Ax.look, sizeN, mkV, Nat.reduceEqDiff, reduceIte, axL, get1 hb, f1, f2]; rfl) ?_)
      | (first | with_reducible refine is_wd ?_ | with_reducible refine dk_wd ?_); refine go_dt _ (by simp only [Ax.runDK, Ax.runDT, Ax.runDops, Ax.run1d, Ax.recs, Ax.okPair, Ax.idsE, Ax.idsV, AOp.mems, AOp.isWrite, DRec.none, axD, Ax.runK, Ax.runOps, Ax.run1, Ax.wantA, Ax.step, Ax.ev, Ax.evs, Ax.evo, Ax.evp, Ax.look, Ax.putE, Ax.keepE, Ax.argsE, Ax.extr, Ax.binV, Ax.intBin, Ax.unV, Ax.addOff, Ax.sizeN, Ax.mkV, Ax.okV, reduceIte, Nat.reduceEqDiff, Nat.reduceAdd, Nat.reduceLeDiff, Nat.reduceLT, Nat.reduceSub, Nat.reduceMul, reduceCtorEq, Int.reduceEq, Int.reduceLT, Int.reduceLE, Int.reduceAdd, Int.reduceSub, Int.reduceNeg, Int.reduceToNat, undef, Value.cells, axL, get1 hb, f1, f2]; rfl) rfl ?_
      | (with_reducible first | refine end_reg (Ev.mono _ _) ?_ | refine end_dreg (Ev.mono _ _) ?_ | refine end_cond (Ev.mono _ _) ?_ | refine end_block (Ev.mono _ _) ?_ | refine end_loop (Ev.mono _ _) ?_))
    exact hq0 (hmem.1 rfl)
  | false =>
    rw [hb2] at f2 hmem
    have hx : x ∉ s.map (·.x) := fun hm => by have := hmem.2 hm; cases this
    have hxm : m.lookup x = none := by simpa using hb2
    repeat' (first
      | (with_reducible first | refine go_assoc ?_ (Ev.mono _ _) | refine go_skip ?_ | refine go_fin ?_ | refine go_ret ?_ | refine go_ret0 ?_ | refine go_exit ?_ | refine go_exit0 ?_ | refine go_block ?_ | refine n_then ?_ | refine x_then ?_ | refine r_then ?_ | refine n_block ?_ | refine r_block ?_ | refine x_block ?_ | refine x_block_ne ?_ (by decide))
      | (with_reducible refine is_k ?_; refine go_k _ (by simp only [Ax.runK, Ax.runOps, Ax.run1, Ax.wantA, Ax.step, Ax.ev, Ax.evs, Ax.evo, Ax.evp, Ax.look, Ax.putE, Ax.keepE, Ax.argsE, Ax.extr, Ax.binV, Ax.intBin, Ax.unV, Ax.addOff, Ax.sizeN, Ax.mkV, Ax.okV, reduceIte, Nat.reduceEqDiff, Nat.reduceAdd, Nat.reduceLeDiff, Nat.reduceLT, Nat.reduceSub, Nat.reduceMul, reduceCtorEq, Int.reduceEq, Int.reduceLT, Int.reduceLE, Int.reduceAdd, Int.reduceSub, Int.reduceNeg, Int.reduceToNat, undef, Value.cells, axL, get1 hb, f1, f2]; rfl) rfl ?_)
      | (with_reducible refine cond_t ?_ ?_; · simp only [Ax.ev, Ax.look, reduceIte, Nat.reduceEqDiff])
      | (with_reducible refine cond_f ?_ ?_; · simp only [Ax.ev, Ax.look, reduceIte, Nat.reduceEqDiff])
      | (with_reducible refine is_rp ?_; first | refine r_postR rfl ?_ | refine r_postR (by simp only [Ax.result, Ax.resVs, Ax.resV, R7, Ax.look, sizeN, mkV, Nat.reduceEqDiff, reduceIte, axL, get1 hb, f1, f2]; rfl) ?_)
      | (with_reducible refine is_np ?_; first | refine n_postR rfl ?_ | refine n_postR (by simp only [Ax.result, Ax.resVs, Ax.resV, R7, Ax.look, sizeN, mkV, Nat.reduceEqDiff, reduceIte, axL, get1 hb, f1, f2]; rfl) ?_)
      | (first | with_reducible refine is_wd ?_ | with_reducible refine dk_wd ?_); refine go_dt _ (by simp only [Ax.runDK, Ax.runDT, Ax.runDops, Ax.run1d, Ax.recs, Ax.okPair, Ax.idsE, Ax.idsV, AOp.mems, AOp.isWrite, DRec.none, axD, Ax.runK, Ax.runOps, Ax.run1, Ax.wantA, Ax.step, Ax.ev, Ax.evs, Ax.evo, Ax.evp, Ax.look, Ax.putE, Ax.keepE, Ax.argsE, Ax.extr, Ax.binV, Ax.intBin, Ax.unV, Ax.addOff, Ax.sizeN, Ax.mkV, Ax.okV, reduceIte, Nat.reduceEqDiff, Nat.reduceAdd, Nat.reduceLeDiff, Nat.reduceLT, Nat.reduceSub, Nat.reduceMul, reduceCtorEq, Int.reduceEq, Int.reduceLT, Int.reduceLE, Int.reduceAdd, Int.reduceSub, Int.reduceNeg, Int.reduceToNat, undef, Value.cells, axL, get1 hb, f1, f2]; rfl) rfl ?_
      | (with_reducible first | refine end_reg (Ev.mono _ _) ?_ | refine end_dreg (Ev.mono _ _) ?_ | refine end_cond (Ev.mono _ _) ?_ | refine end_block (Ev.mono _ _) ?_ | refine end_loop (Ev.mono _ _) ?_))
    refine go_cut (Ev.mono _ _) (fun ρ' S' => ∃ id r, ρ' = (0, .pointer (some ⟨hd, 0, none⟩)) :: (2, .int .i64 x) :: (1, .int .i64 w) :: r ∧ St R (hp hd id lv (.int .i64 sq) l m F) S') ?_ ?_
    · refine end_cond (Ev.mono _ _) ?_
      refine go_cond rfl (fun hb => ?_) (fun hb => ?_)
      · obtain ⟨rfl, rfl⟩ := f4 hb
        have H2 := (MapI.nil (H1.pick 3 [0, 1] rfl) (fun n => Value.int .i64 n)).pick 3 [1, 2, 0] rfl
        have hb2 := H2.pget
        have H3 := H2.setc [lv, .map (some S.nx), .int .i64 sq]
        repeat' (first
      | (with_reducible first | refine go_assoc ?_ (Ev.mono _ _) | refine go_skip ?_ | refine go_fin ?_ | refine go_ret ?_ | refine go_ret0 ?_ | refine go_exit ?_ | refine go_exit0 ?_ | refine go_block ?_ | refine n_then ?_ | refine x_then ?_ | refine r_then ?_ | refine n_block ?_ | refine r_block ?_ | refine x_block ?_ | refine x_block_ne ?_ (by decide))
      | (with_reducible refine is_k ?_; refine go_k _ (by simp only [Ax.runK, Ax.runOps, Ax.run1, Ax.wantA, Ax.step, Ax.ev, Ax.evs, Ax.evo, Ax.evp, Ax.look, Ax.putE, Ax.keepE, Ax.argsE, Ax.extr, Ax.binV, Ax.intBin, Ax.unV, Ax.addOff, Ax.sizeN, Ax.mkV, Ax.okV, reduceIte, Nat.reduceEqDiff, Nat.reduceAdd, Nat.reduceLeDiff, Nat.reduceLT, Nat.reduceSub, Nat.reduceMul, reduceCtorEq, Int.reduceEq, Int.reduceLT, Int.reduceLE, Int.reduceAdd, Int.reduceSub, Int.reduceNeg, Int.reduceToNat, undef, Value.cells, axL, set1 hb2]; rfl) rfl ?_)
      | (with_reducible refine cond_t ?_ ?_; · simp only [Ax.ev, Ax.look, reduceIte, Nat.reduceEqDiff])
      | (with_reducible refine cond_f ?_ ?_; · simp only [Ax.ev, Ax.look, reduceIte, Nat.reduceEqDiff])
      | (with_reducible refine is_rp ?_; first | refine r_postR rfl ?_ | refine r_postR (by simp only [Ax.result, Ax.resVs, Ax.resV, R7, Ax.look, sizeN, mkV, Nat.reduceEqDiff, reduceIte, axL, set1 hb2]; rfl) ?_)
      | (with_reducible refine is_np ?_; first | refine n_postR rfl ?_ | refine n_postR (by simp only [Ax.result, Ax.resVs, Ax.resV, R7, Ax.look, sizeN, mkV, Nat.reduceEqDiff, reduceIte, axL, set1 hb2]; rfl) ?_)
      | (first | with_reducible refine is_wd ?_ | with_reducible refine dk_wd ?_); refine go_dt _ (by simp only [Ax.runDK, Ax.runDT, Ax.runDops, Ax.run1d, Ax.recs, Ax.okPair, Ax.idsE, Ax.idsV, AOp.mems, AOp.isWrite, DRec.none, axD, Ax.runK, Ax.runOps, Ax.run1, Ax.wantA, Ax.step, Ax.ev, Ax.evs, Ax.evo, Ax.evp, Ax.look, Ax.putE, Ax.keepE, Ax.argsE, Ax.extr, Ax.binV, Ax.intBin, Ax.unV, Ax.addOff, Ax.sizeN, Ax.mkV, Ax.okV, reduceIte, Nat.reduceEqDiff, Nat.reduceAdd, Nat.reduceLeDiff, Nat.reduceLT, Nat.reduceSub, Nat.reduceMul, reduceCtorEq, Int.reduceEq, Int.reduceLT, Int.reduceLE, Int.reduceAdd, Int.reduceSub, Int.reduceNeg, Int.reduceToNat, undef, Value.cells, axL, set1 hb2]; rfl) rfl ?_
      | (with_reducible first | refine end_reg (Ev.mono _ _) ?_ | refine end_dreg (Ev.mono _ _) ?_ | refine end_cond (Ev.mono _ _) ?_ | refine end_block (Ev.mono _ _) ?_ | refine end_loop (Ev.mono _ _) ?_))
        exact ⟨S.nx, _, rfl, H3⟩
      · obtain ⟨id, rfl, H2⟩ := f5 hb
        repeat' (first
      | (with_reducible first | refine go_assoc ?_ (Ev.mono _ _) | refine go_skip ?_ | refine go_fin ?_ | refine go_ret ?_ | refine go_ret0 ?_ | refine go_exit ?_ | refine go_exit0 ?_ | refine go_block ?_ | refine n_then ?_ | refine x_then ?_ | refine r_then ?_ | refine n_block ?_ | refine r_block ?_ | refine x_block ?_ | refine x_block_ne ?_ (by decide))
      | (with_reducible refine is_k ?_; refine go_k _ (by simp only [Ax.runK, Ax.runOps, Ax.run1, Ax.wantA, Ax.step, Ax.ev, Ax.evs, Ax.evo, Ax.evp, Ax.look, Ax.putE, Ax.keepE, Ax.argsE, Ax.extr, Ax.binV, Ax.intBin, Ax.unV, Ax.addOff, Ax.sizeN, Ax.mkV, Ax.okV, reduceIte, Nat.reduceEqDiff, Nat.reduceAdd, Nat.reduceLeDiff, Nat.reduceLT, Nat.reduceSub, Nat.reduceMul, reduceCtorEq, Int.reduceEq, Int.reduceLT, Int.reduceLE, Int.reduceAdd, Int.reduceSub, Int.reduceNeg, Int.reduceToNat, undef, Value.cells, axL]; rfl) rfl ?_)
      | (with_reducible refine cond_t ?_ ?_; · simp only [Ax.ev, Ax.look, reduceIte, Nat.reduceEqDiff])
      | (with_reducible refine cond_f ?_ ?_; · simp only [Ax.ev, Ax.look, reduceIte, Nat.reduceEqDiff])
      | (with_reducible refine is_rp ?_; first | refine r_postR rfl ?_ | refine r_postR (by simp only [Ax.result, Ax.resVs, Ax.resV, R7, Ax.look, sizeN, mkV, Nat.reduceEqDiff, reduceIte, axL]; rfl) ?_)
      | (with_reducible refine is_np ?_; first | refine n_postR rfl ?_ | refine n_postR (by simp only [Ax.result, Ax.resVs, Ax.resV, R7, Ax.look, sizeN, mkV, Nat.reduceEqDiff, reduceIte, axL]; rfl) ?_)
      | (first | with_reducible refine is_wd ?_ | with_reducible refine dk_wd ?_); refine go_dt _ (by simp only [Ax.runDK, Ax.runDT, Ax.runDops, Ax.run1d, Ax.recs, Ax.okPair, Ax.idsE, Ax.idsV, AOp.mems, AOp.isWrite, DRec.none, axD, Ax.runK, Ax.runOps, Ax.run1, Ax.wantA, Ax.step, Ax.ev, Ax.evs, Ax.evo, Ax.evp, Ax.look, Ax.putE, Ax.keepE, Ax.argsE, Ax.extr, Ax.binV, Ax.intBin, Ax.unV, Ax.addOff, Ax.sizeN, Ax.mkV, Ax.okV, reduceIte, Nat.reduceEqDiff, Nat.reduceAdd, Nat.reduceLeDiff, Nat.reduceLT, Nat.reduceSub, Nat.reduceMul, reduceCtorEq, Int.reduceEq, Int.reduceLT, Int.reduceLE, Int.reduceAdd, Int.reduceSub, Int.reduceNeg, Int.reduceToNat, undef, Value.cells, axL]; rfl) rfl ?_
      | (with_reducible first | refine end_reg (Ev.mono _ _) ?_ | refine end_dreg (Ev.mono _ _) ?_ | refine end_cond (Ev.mono _ _) ?_ | refine end_block (Ev.mono _ _) ?_ | refine end_loop (Ev.mono _ _) ?_))
        exact ⟨id, _, rfl, H2.pick 3 [1, 2, 0] rfl⟩
    · rintro ρ' S1 ⟨id, r, rfl, H⟩
      have hb := H.pget
      have hne : hd ≠ S1.nx := by have := H.lt; omega
      have hlt : ¬ S1.nx ≤ hd := by have := H.lt; omega
      obtain ⟨al, ac, rfl⟩ := SlT.shape (H.pick 3 [1, 0, 2] rfl)
      have H2 := (H.newc [.int .i64 w, .int .i64 sq, .int .i64 x]).pick 4 [2, 1, 3] rfl
      obtain ⟨v', S2, g1, H3⟩ := SlT.append H2 (bytes := 24) (m := [(⟨w, sq, x⟩ : It)]) (x := .slice (some ⟨S1.nx, 0, none⟩) 1 1) (src_new rfl) rfl (by simp; omega)
      obtain ⟨al', ac', rfl⟩ := SlT.shape H3
      have hb2 := (H3.pick 2 [1] rfl).pget
      have H4 := (H3.pick 3 [1, 0, 2] rfl).setc [.slice al' (l ++ [(⟨w, sq, x⟩ : It)]).length ac', .map (some id), .int .i64 sq]
      refine go_dk _ (by simp only [Ax.runDK, Ax.runDT, Ax.runDops, Ax.run1d, Ax.recs, Ax.okPair, Ax.idsE, Ax.idsV, AOp.mems, AOp.isWrite, DRec.none, axD, Ax.runK, Ax.runOps, Ax.run1, Ax.wantA, Ax.step, Ax.ev, Ax.evs, Ax.evo, Ax.evp, Ax.look, Ax.putE, Ax.keepE, Ax.argsE, Ax.extr, Ax.binV, Ax.intBin, Ax.unV, Ax.addOff, Ax.sizeN, Ax.mkV, Ax.okV, reduceIte, Nat.reduceEqDiff, Nat.reduceAdd, Nat.reduceLeDiff, Nat.reduceLT, Nat.reduceSub, Nat.reduceMul, reduceCtorEq, Int.reduceEq, Int.reduceLT, Int.reduceLE, Int.reduceAdd, Int.reduceSub, Int.reduceNeg, Int.reduceToNat, undef, Value.cells, axL, get1 hb, get_new_ne, hne, hlt, g1, set1 hb2, new_nx]; rfl) rfl ?_
      generalize S2.set hd _ = S3 at H4
      clear H H2 H3
      generalize Value.slice al' (l ++ [(⟨w, sq, x⟩ : It)]).length ac' = lv' at H4
      have hb3 := H4.pget
      have H5 := H4.setc [lv', .map (some id), .int .i64 (sq + 1)]
      have hb5 := H5.pget
      have hlv := SlT.len (H5.pick 3 [1] rfl)
      obtain ⟨l2, hl2⟩ : ∃ l2, l2 = l ++ [(⟨w, sq, x⟩ : It)] := ⟨_, rfl⟩
      rw [← hl2] at H5 hlv
      have hl2n : l2.length = l.length + 1 := by rw [hl2]; simp
      have hixl : ∀ j, j < l.length → ix l2 j = ix l j := fun j hj => by simp only [hl2, ix, List.getElem?_append_left hj]
      have hixn : ix l2 l.length = ⟨w, sq, x⟩ := by simp [hl2, ix]
      have w2 : IntKind.wrap .i64 ((l2.length : Int) - 1) = (l.length : Nat) := by
        have : (l2.length : Int) - 1 = (l.length : Nat) := by omega
        rw [this]; exact wrapI (by unfold I64; omega)
      repeat' (first
      | (with_reducible first | refine go_assoc ?_ (Ev.mono _ _) | refine go_skip ?_ | refine go_fin ?_ | refine go_ret ?_ | refine go_ret0 ?_ | refine go_exit ?_ | refine go_exit0 ?_ | refine go_block ?_ | refine n_then ?_ | refine x_then ?_ | refine r_then ?_ | refine n_block ?_ | refine r_block ?_ | refine x_block ?_ | refine x_block_ne ?_ (by decide))
      | (with_reducible refine is_k ?_; refine go_k _ (by simp only [Ax.runK, Ax.runOps, Ax.run1, Ax.wantA, Ax.step, Ax.ev, Ax.evs, Ax.evo, Ax.evp, Ax.look, Ax.putE, Ax.keepE, Ax.argsE, Ax.extr, Ax.binV, Ax.intBin, Ax.unV, Ax.addOff, Ax.sizeN, Ax.mkV, Ax.okV, reduceIte, Nat.reduceEqDiff, Nat.reduceAdd, Nat.reduceLeDiff, Nat.reduceLT, Nat.reduceSub, Nat.reduceMul, reduceCtorEq, Int.reduceEq, Int.reduceLT, Int.reduceLE, Int.reduceAdd, Int.reduceSub, Int.reduceNeg, Int.reduceToNat, undef, Value.cells, axL, get1 hb3, set1 hb3, wrapI hsq]; rfl) rfl ?_)
      | (with_reducible refine cond_t ?_ ?_; · simp only [Ax.ev, Ax.look, reduceIte, Nat.reduceEqDiff])
      | (with_reducible refine cond_f ?_ ?_; · simp only [Ax.ev, Ax.look, reduceIte, Nat.reduceEqDiff])
      | (with_reducible refine is_rp ?_; first | refine r_postR rfl ?_ | refine r_postR (by simp only [Ax.result, Ax.resVs, Ax.resV, R7, Ax.look, sizeN, mkV, Nat.reduceEqDiff, reduceIte, axL, get1 hb3, set1 hb3, wrapI hsq]; rfl) ?_)
      | (with_reducible refine is_np ?_; first | refine n_postR rfl ?_ | refine n_postR (by simp only [Ax.result, Ax.resVs, Ax.resV, R7, Ax.look, sizeN, mkV, Nat.reduceEqDiff, reduceIte, axL, get1 hb3, set1 hb3, wrapI hsq]; rfl) ?_)
      | (first | with_reducible refine is_wd ?_ | with_reducible refine dk_wd ?_); refine go_dt _ (by simp only [Ax.runDK, Ax.runDT, Ax.runDops, Ax.run1d, Ax.recs, Ax.okPair, Ax.idsE, Ax.idsV, AOp.mems, AOp.isWrite, DRec.none, axD, Ax.runK, Ax.runOps, Ax.run1, Ax.wantA, Ax.step, Ax.ev, Ax.evs, Ax.evo, Ax.evp, Ax.look, Ax.putE, Ax.keepE, Ax.argsE, Ax.extr, Ax.binV, Ax.intBin, Ax.unV, Ax.addOff, Ax.sizeN, Ax.mkV, Ax.okV, reduceIte, Nat.reduceEqDiff, Nat.reduceAdd, Nat.reduceLeDiff, Nat.reduceLT, Nat.reduceSub, Nat.reduceMul, reduceCtorEq, Int.reduceEq, Int.reduceLT, Int.reduceLE, Int.reduceAdd, Int.reduceSub, Int.reduceNeg, Int.reduceToNat, undef, Value.cells, axL, get1 hb3, set1 hb3, wrapI hsq]; rfl) rfl ?_
      | (with_reducible first | refine end_reg (Ev.mono _ _) ?_ | refine end_dreg (Ev.mono _ _) ?_ | refine end_cond (Ev.mono _ _) ?_ | refine end_block (Ev.mono _ _) ?_ | refine end_loop (Ev.mono _ _) ?_))
      repeat' (with_reducible first | refine go_assoc ?_ (Ev.mono _ _) | refine go_skip ?_ | refine go_block ?_ | refine end_reg (Ev.mono _ _) ?_)
      refine go_callN 7 _ (by simp only [Ax.runN, Ax.runK, Ax.runOps, Ax.run1, Ax.wantA, Ax.step, Ax.ev, Ax.evs, Ax.evo, Ax.evp, Ax.look, Ax.putE, Ax.keepE, Ax.argsE, Ax.extr, Ax.binV, Ax.intBin, Ax.unV, Ax.addOff, Ax.sizeN, Ax.mkV, Ax.okV, reduceIte, Nat.reduceEqDiff, Nat.reduceAdd, Nat.reduceLeDiff, Nat.reduceLT, Nat.reduceSub, Nat.reduceMul, reduceCtorEq, Int.reduceEq, Int.reduceLT, Int.reduceLE, Int.reduceAdd, Int.reduceSub, Int.reduceNeg, Int.reduceToNat, undef, Value.cells, axL, get1 hb5, hlv, w2]; rfl) rfl rfl (by simp only [Ax.wantA, Ax.look, reduceIte, Nat.reduceEqDiff, bq_t, bq_f, Bool.not_true, Bool.not_false]; try rfl) rfl (by simp only [Ax.runK, Ax.runOps, Ax.run1, Ax.wantA, Ax.step, Ax.ev, Ax.evs, Ax.evo, Ax.evp, Ax.look, Ax.putE, Ax.keepE, Ax.argsE, Ax.extr, Ax.binV, Ax.intBin, Ax.unV, Ax.addOff, Ax.sizeN, Ax.mkV, Ax.okV, reduceIte, Nat.reduceEqDiff, Nat.reduceAdd, Nat.reduceLeDiff, Nat.reduceLT, Nat.reduceSub, Nat.reduceMul, reduceCtorEq, Int.reduceEq, Int.reduceLT, Int.reduceLE, Int.reduceAdd, Int.reduceSub, Int.reduceNeg, Int.reduceToNat, undef, Value.cells, axL, get1 hb5, hlv, w2]; try rfl) ?_
      have hnd : (l2.map (·.x)).Nodup := by
        rw [hl2, List.map_append]
        refine List.nodup_append.2 ⟨h.at'.nd, by simp, fun a ha b hb => ?_⟩
        simp only [List.map_cons, List.map_nil, List.mem_singleton] at hb
        subst hb
        intro e; subst e
        exact hx ((h.perm.map (·.x)).mem_iff.1 ha)
      refine up_spec X H5 (i := l.length) (by omega) (by omega) (fun j hj h0 hne hpn => ?_) (fun j hj h0 hp hi => by omega) ⟨fun j hj hne => ?_, fun y k hy => ?_, hnd⟩ (fun S6 l' m' i' H6 hu => ?_)
      · rw [hixl j (by omega), hixl _ (by omega)]
        exact h.ord j (by omega) h0
      · rw [hixl j (by omega)]
        exact h.at'.at' j (by omega)
      · have := h.at'.dom y k hy
        rw [hl2, List.map_append]
        exact List.mem_append_left _ this
      · repeat' (first
      | (with_reducible first | refine go_assoc ?_ (Ev.mono _ _) | refine go_skip ?_ | refine go_fin ?_ | refine go_ret ?_ | refine go_ret0 ?_ | refine go_exit ?_ | refine go_exit0 ?_ | refine go_block ?_ | refine n_then ?_ | refine x_then ?_ | refine r_then ?_ | refine n_block ?_ | refine r_block ?_ | refine x_block ?_ | refine x_block_ne ?_ (by decide))
      | (with_reducible refine is_k ?_; refine go_k _ (by simp only [Ax.runK, Ax.runOps, Ax.run1, Ax.wantA, Ax.step, Ax.ev, Ax.evs, Ax.evo, Ax.evp, Ax.look, Ax.putE, Ax.keepE, Ax.argsE, Ax.extr, Ax.binV, Ax.intBin, Ax.unV, Ax.addOff, Ax.sizeN, Ax.mkV, Ax.okV, reduceIte, Nat.reduceEqDiff, Nat.reduceAdd, Nat.reduceLeDiff, Nat.reduceLT, Nat.reduceSub, Nat.reduceMul, reduceCtorEq, Int.reduceEq, Int.reduceLT, Int.reduceLE, Int.reduceAdd, Int.reduceSub, Int.reduceNeg, Int.reduceToNat, undef, Value.cells, axL]; rfl) rfl ?_)
      | (with_reducible refine cond_t ?_ ?_; · simp only [Ax.ev, Ax.look, reduceIte, Nat.reduceEqDiff])
      | (with_reducible refine cond_f ?_ ?_; · simp only [Ax.ev, Ax.look, reduceIte, Nat.reduceEqDiff])
      | (with_reducible refine is_rp ?_; first | refine r_postR rfl ?_ | refine r_postR (by simp only [Ax.result, Ax.resVs, Ax.resV, R7, Ax.look, sizeN, mkV, Nat.reduceEqDiff, reduceIte, axL]; rfl) ?_)
      | (with_reducible refine is_np ?_; first | refine n_postR rfl ?_ | refine n_postR (by simp only [Ax.result, Ax.resVs, Ax.resV, R7, Ax.look, sizeN, mkV, Nat.reduceEqDiff, reduceIte, axL]; rfl) ?_)
      | (first | with_reducible refine is_wd ?_ | with_reducible refine dk_wd ?_); refine go_dt _ (by simp only [Ax.runDK, Ax.runDT, Ax.runDops, Ax.run1d, Ax.recs, Ax.okPair, Ax.idsE, Ax.idsV, AOp.mems, AOp.isWrite, DRec.none, axD, Ax.runK, Ax.runOps, Ax.run1, Ax.wantA, Ax.step, Ax.ev, Ax.evs, Ax.evo, Ax.evp, Ax.look, Ax.putE, Ax.keepE, Ax.argsE, Ax.extr, Ax.binV, Ax.intBin, Ax.unV, Ax.addOff, Ax.sizeN, Ax.mkV, Ax.okV, reduceIte, Nat.reduceEqDiff, Nat.reduceAdd, Nat.reduceLeDiff, Nat.reduceLT, Nat.reduceSub, Nat.reduceMul, reduceCtorEq, Int.reduceEq, Int.reduceLT, Int.reduceLE, Int.reduceAdd, Int.reduceSub, Int.reduceNeg, Int.reduceToNat, undef, Value.cells, axL]; rfl) rfl ?_
      | (with_reducible first | refine end_reg (Ev.mono _ _) ?_ | refine end_dreg (Ev.mono _ _) ?_ | refine end_cond (Ev.mono _ _) ?_ | refine end_block (Ev.mono _ _) ?_ | refine end_loop (Ev.mono _ _) ?_))
        refine hq hx _ (HeapA.close ((AtA.mk (H6.pick 3 [2, 0, 1] rfl)).pick 3 [1, 2, 0] rfl) ⟨?_, ?_, hu.at', insS_sorted h.sorted hs⟩)
        · refine hu.perm.trans ?_
          rw [hl2]
          refine (List.perm_append_singleton _ _).trans ((h.perm.cons _).trans ?_)
          exact (insS_perm _ s).symm
        · refine ord_of hu.a (hu.c ?_) hu.p
          right
          intro j hj h0 hp
          omega

end Go.Proofs.Ytboclpaokecalaa

