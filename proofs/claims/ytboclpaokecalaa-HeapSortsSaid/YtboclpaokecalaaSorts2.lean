/- Part 2 of Sorts. -/
import Derived.Test.YtboclpaokecalaaSorts1
set_option linter.unusedVariables false
set_option linter.unusedSimpArgs false
set_option linter.unnecessarySimpa false
/- Law 06: HeapSorts. -/
namespace Go.Proofs.Ytboclpaokecalaa
open Go.Ax
open Go.Ax.Enc (enc)

/-- Things with these times: each with its place as number and as itself. -/
def itemOf (l : List Int) (j : Nat) : It := ⟨l.getD j 0, j, j⟩

/-- A row that holds just the first n. -/
structure Put (l : List Int) (n : Nat) (s : List It) : Prop where
  perm : s.Perm ((List.range n).map (itemOf l))
  sorted : Sorted s

theorem Put.mem {l : List Int} {n : Nat} {s : List It} (h : Put l n s) {y : It} (hy : y ∈ s) : ∃ j, j < n ∧ y = itemOf l j := by
  have := h.perm.mem_iff.1 hy
  obtain ⟨j, hj, rfl⟩ := List.mem_map.1 this
  exact ⟨j, List.mem_range.1 hj, rfl⟩

theorem Put.x {l : List Int} {n : Nat} {s : List It} (h : Put l n s) (x : Int) : x ∈ s.map (·.x) ↔ ∃ j : Nat, j < n ∧ x = j := by
  constructor
  · intro hx
    obtain ⟨y, hy, rfl⟩ := List.mem_map.1 hx
    obtain ⟨j, hj, rfl⟩ := h.mem hy
    exact ⟨j, hj, rfl⟩
  · rintro ⟨j, hj, rfl⟩
    refine List.mem_map.2 ⟨itemOf l j, h.perm.mem_iff.2 (List.mem_map.2 ⟨j, List.mem_range.2 hj, rfl⟩), rfl⟩

theorem Put.len {l : List Int} {n : Nat} {s : List It} (h : Put l n s) : s.length = n := by
  have := h.perm.length_eq
  simpa using this

theorem Put.step {l : List Int} {n : Nat} {s : List It} (h : Put l n s) (w : Int) (hw : w = l.getD n 0) : Put l (n + 1) (insS ⟨w, n, n⟩ s) := by
  subst hw
  refine ⟨?_, insS_sorted h.sorted (fun y hy => ?_)⟩
  · refine (insS_perm _ s).trans ?_
    rw [List.range_succ, List.map_append]
    refine ((h.perm.cons _).trans ?_)
    exact (List.perm_append_singleton _ _).symm
  · obtain ⟨j, hj, rfl⟩ := h.mem hy
    simp only [itemOf]; omega

theorem HeapA.empty {R : Nat → Option (List Value)} {F : List Asn} {S : AS} {hd : Nat} (H : St R (pts hd [.slice none 0 0, .map none, .int .i64 0] :: F) S) : St R (HeapA hd [] 0 :: F) S := by
  refine HeapA.close (lv := .slice none 0 0) (av := .map none) (l := []) (m := []) ?_ ⟨.refl _, fun j hj => by simp at hj, ⟨fun j hj => by simp at hj, fun y k h => by simp at h, by simp⟩, by simp [Sorted]⟩
  have h1 := SlT.nil (α := It) H
  obtain ⟨h2, h3⟩ := h1
  have h4 : St R (AtA (.map none) [] :: SlT (.slice none 0 0) ([] : List It) :: pts hd [.slice none 0 0, .map none, .int .i64 0] :: F) S := ⟨⟨fun _ => false, .inl ⟨rfl, rfl⟩, h2.sub fun i o ho => ho⟩, h3⟩
  exact h4.pick 3 [2, 1, 0] rfl

theorem heapSorts_law {R : Nat → Option (List Value)} {v : Value} {times : List Int} (hv : RIn R v times) : Law G XL 3 [v] R := by
  intro F S H
  refine Ev.fnR (rs := R3) (c := A3) rfl ?_
  unfold A3
  obtain ⟨l, hl⟩ : ∃ l, l = times.take 200 := ⟨_, rfl⟩
  obtain ⟨v', e1, hv'⟩ := hv.slice H (lo := 0) (hi := l.length) (Nat.zero_le _) (by rw [hl]; simp; omega) none (some (.int .i64 l.length)) (.inl ⟨rfl, rfl⟩) (.inr ⟨_, rfl⟩)
  have hl' : times.take l.length = l := by rw [hl]; simp [List.take_take]
  rw [List.drop_zero, Nat.sub_zero, hl'] at hv'
  have hmin : minV (.int .i64 times.length) (.int .i64 200) = some (.int .i64 l.length) := by
    simp only [minV, hl, List.length_take]
    congr 2
    split <;> omega
  have hl200 : l.length ≤ 200 := by rw [hl]; simp; omega
  clear hl hl'
  have hvl := hv.len H
  have hvl' := hv'.len H
  repeat' (first
      | (with_reducible first | refine go_assoc ?_ (Ev.mono _ _) | refine go_skip ?_ | refine go_fin ?_ | refine go_ret ?_ | refine go_ret0 ?_ | refine go_exit ?_ | refine go_exit0 ?_ | refine go_block ?_ | refine n_then ?_ | refine x_then ?_ | refine r_then ?_ | refine n_block ?_ | refine r_block ?_ | refine x_block ?_ | refine x_block_ne ?_ (by decide))
      | (with_reducible refine is_k ?_; refine go_k _ (by simp only [Ax.runK, Ax.runOps, Ax.run1, Ax.wantA, Ax.step, Ax.ev, Ax.evs, Ax.evo, Ax.evp, Ax.look, Ax.putE, Ax.keepE, Ax.argsE, Ax.extr, Ax.binV, Ax.intBin, Ax.unV, Ax.addOff, Ax.sizeN, Ax.mkV, Ax.okV, reduceIte, Nat.reduceEqDiff, Nat.reduceAdd, Nat.reduceLeDiff, Nat.reduceLT, Nat.reduceSub, Nat.reduceMul, reduceCtorEq, Int.reduceEq, Int.reduceLT, Int.reduceLE, Int.reduceAdd, Int.reduceSub, Int.reduceNeg, Int.reduceToNat, undef, Value.cells, axL, hvl, hmin, e1, hvl']; rfl) rfl ?_)
      | (with_reducible refine cond_t ?_ ?_; · simp only [Ax.ev, Ax.look, reduceIte, Nat.reduceEqDiff])
      | (with_reducible refine cond_f ?_ ?_; · simp only [Ax.ev, Ax.look, reduceIte, Nat.reduceEqDiff])
      | (with_reducible refine is_rp ?_; first | refine r_postR rfl ?_ | refine r_postR (by simp only [Ax.result, Ax.resVs, Ax.resV, R3, Ax.look, sizeN, mkV, Nat.reduceEqDiff, reduceIte, axL, hvl, hmin, e1, hvl']; rfl) ?_)
      | (with_reducible refine is_np ?_; first | refine n_postR rfl ?_ | refine n_postR (by simp only [Ax.result, Ax.resVs, Ax.resV, R3, Ax.look, sizeN, mkV, Nat.reduceEqDiff, reduceIte, axL, hvl, hmin, e1, hvl']; rfl) ?_)
      | (first | with_reducible refine is_wd ?_ | with_reducible refine dk_wd ?_); refine go_dt _ (by simp only [Ax.runDK, Ax.runDT, Ax.runDops, Ax.run1d, Ax.recs, Ax.okPair, Ax.idsE, Ax.idsV, AOp.mems, AOp.isWrite, DRec.none, axD, Ax.runK, Ax.runOps, Ax.run1, Ax.wantA, Ax.step, Ax.ev, Ax.evs, Ax.evo, Ax.evp, Ax.look, Ax.putE, Ax.keepE, Ax.argsE, Ax.extr, Ax.binV, Ax.intBin, Ax.unV, Ax.addOff, Ax.sizeN, Ax.mkV, Ax.okV, reduceIte, Nat.reduceEqDiff, Nat.reduceAdd, Nat.reduceLeDiff, Nat.reduceLT, Nat.reduceSub, Nat.reduceMul, reduceCtorEq, Int.reduceEq, Int.reduceLT, Int.reduceLE, Int.reduceAdd, Int.reduceSub, Int.reduceNeg, Int.reduceToNat, undef, Value.cells, axL, hvl, hmin, e1, hvl']; rfl) rfl ?_
      | (with_reducible first | refine end_reg (Ev.mono _ _) ?_ | refine end_dreg (Ev.mono _ _) ?_ | refine end_cond (Ev.mono _ _) ?_ | refine end_block (Ev.mono _ _) ?_ | refine end_loop (Ev.mono _ _) ?_))
  have H1 := HeapA.empty (H.newc [.slice none 0 0, .map none, .int .i64 0])
  generalize S.nx = hd at H1
  generalize S.new (.cells false [.slice none 0 0, .map none, .int .i64 0]) = S1 at H1
  refine go_loop (Ev.mono _ _) (fun (k : Nat) ρ S' => k ≤ l.length ∧ ρ = [(24, .int .i64 k), (3, .pointer (some ⟨hd, 0, none⟩)), (22, v'), (0, v'), (23, .int .i64 l.length)] ∧ ∃ s, Put l k s ∧ St R (HeapA hd s k :: F) S') (fun k => l.length - k) 0 ⟨Nat.zero_le _, rfl, [], ⟨by simp, by simp [Sorted]⟩, H1⟩ ?_
  rintro k ρ S2 ⟨hk, rfl, s, hs, H2⟩
  have wk : IntKind.wrap .i64 ((k : Int) + 1) = ((k + 1 : Nat) : Int) := wrapI (n := (k : Int) + 1) (by unfold I64; omega)
  repeat' (first
      | (with_reducible first | refine go_assoc ?_ (Ev.mono _ _) | refine go_skip ?_ | refine go_fin ?_ | refine go_ret ?_ | refine go_ret0 ?_ | refine go_exit ?_ | refine go_exit0 ?_ | refine go_block ?_ | refine n_then ?_ | refine x_then ?_ | refine r_then ?_ | refine n_block ?_ | refine r_block ?_ | refine x_block ?_ | refine x_block_ne ?_ (by decide))
      | (with_reducible refine is_k ?_; refine go_k _ (by simp only [Ax.runK, Ax.runOps, Ax.run1, Ax.wantA, Ax.step, Ax.ev, Ax.evs, Ax.evo, Ax.evp, Ax.look, Ax.putE, Ax.keepE, Ax.argsE, Ax.extr, Ax.binV, Ax.intBin, Ax.unV, Ax.addOff, Ax.sizeN, Ax.mkV, Ax.okV, reduceIte, Nat.reduceEqDiff, Nat.reduceAdd, Nat.reduceLeDiff, Nat.reduceLT, Nat.reduceSub, Nat.reduceMul, reduceCtorEq, Int.reduceEq, Int.reduceLT, Int.reduceLE, Int.reduceAdd, Int.reduceSub, Int.reduceNeg, Int.reduceToNat, undef, Value.cells, axL]; rfl) rfl ?_)
      | (with_reducible refine cond_t ?_ ?_; · simp only [Ax.ev, Ax.look, reduceIte, Nat.reduceEqDiff])
      | (with_reducible refine cond_f ?_ ?_; · simp only [Ax.ev, Ax.look, reduceIte, Nat.reduceEqDiff])
      | (with_reducible refine is_rp ?_; first | refine r_postR rfl ?_ | refine r_postR (by simp only [Ax.result, Ax.resVs, Ax.resV, R3, Ax.look, sizeN, mkV, Nat.reduceEqDiff, reduceIte, axL]; rfl) ?_)
      | (with_reducible refine is_np ?_; first | refine n_postR rfl ?_ | refine n_postR (by simp only [Ax.result, Ax.resVs, Ax.resV, R3, Ax.look, sizeN, mkV, Nat.reduceEqDiff, reduceIte, axL]; rfl) ?_)
      | (first | with_reducible refine is_wd ?_ | with_reducible refine dk_wd ?_); refine go_dt _ (by simp only [Ax.runDK, Ax.runDT, Ax.runDops, Ax.run1d, Ax.recs, Ax.okPair, Ax.idsE, Ax.idsV, AOp.mems, AOp.isWrite, DRec.none, axD, Ax.runK, Ax.runOps, Ax.run1, Ax.wantA, Ax.step, Ax.ev, Ax.evs, Ax.evo, Ax.evp, Ax.look, Ax.putE, Ax.keepE, Ax.argsE, Ax.extr, Ax.binV, Ax.intBin, Ax.unV, Ax.addOff, Ax.sizeN, Ax.mkV, Ax.okV, reduceIte, Nat.reduceEqDiff, Nat.reduceAdd, Nat.reduceLeDiff, Nat.reduceLT, Nat.reduceSub, Nat.reduceMul, reduceCtorEq, Int.reduceEq, Int.reduceLT, Int.reduceLE, Int.reduceAdd, Int.reduceSub, Int.reduceNeg, Int.reduceToNat, undef, Value.cells, axL]; rfl) rfl ?_
      | (with_reducible first | refine end_reg (Ev.mono _ _) ?_ | refine end_dreg (Ev.mono _ _) ?_ | refine end_cond (Ev.mono _ _) ?_ | refine end_block (Ev.mono _ _) ?_ | refine end_loop (Ev.mono _ _) ?_))
  refine cond_d rfl (fun hlt => ?_) (fun hlt => ?_)
  · have hkl : k < l.length := by omega
    obtain ⟨b, a, f1, f2, f3, f4⟩ := RdT.at (hv'.rd H2) hkl .i64
    repeat' (first
      | (with_reducible first | refine go_assoc ?_ (Ev.mono _ _) | refine go_skip ?_ | refine go_fin ?_ | refine go_ret ?_ | refine go_ret0 ?_ | refine go_exit ?_ | refine go_exit0 ?_ | refine go_block ?_ | refine n_then ?_ | refine x_then ?_ | refine r_then ?_ | refine n_block ?_ | refine r_block ?_ | refine x_block ?_ | refine x_block_ne ?_ (by decide))
      | (with_reducible refine is_k ?_; refine go_k _ (by simp only [Ax.runK, Ax.runOps, Ax.run1, Ax.wantA, Ax.step, Ax.ev, Ax.evs, Ax.evo, Ax.evp, Ax.look, Ax.putE, Ax.keepE, Ax.argsE, Ax.extr, Ax.binV, Ax.intBin, Ax.unV, Ax.addOff, Ax.sizeN, Ax.mkV, Ax.okV, reduceIte, Nat.reduceEqDiff, Nat.reduceAdd, Nat.reduceLeDiff, Nat.reduceLT, Nat.reduceSub, Nat.reduceMul, reduceCtorEq, Int.reduceEq, Int.reduceLT, Int.reduceLE, Int.reduceAdd, Int.reduceSub, Int.reduceNeg, Int.reduceToNat, undef, Value.cells, axL, f1, f3]; rfl) rfl ?_)
      | (with_reducible refine cond_t ?_ ?_; · simp only [Ax.ev, Ax.look, reduceIte, Nat.reduceEqDiff])
      | (with_reducible refine cond_f ?_ ?_; · simp only [Ax.ev, Ax.look, reduceIte, Nat.reduceEqDiff])
      | (with_reducible refine is_rp ?_; first | refine r_postR rfl ?_ | refine r_postR (by simp only [Ax.result, Ax.resVs, Ax.resV, R3, Ax.look, sizeN, mkV, Nat.reduceEqDiff, reduceIte, axL, f1, f3]; rfl) ?_)
      | (with_reducible refine is_np ?_; first | refine n_postR rfl ?_ | refine n_postR (by simp only [Ax.result, Ax.resVs, Ax.resV, R3, Ax.look, sizeN, mkV, Nat.reduceEqDiff, reduceIte, axL, f1, f3]; rfl) ?_)
      | (first | with_reducible refine is_wd ?_ | with_reducible refine dk_wd ?_); refine go_dt _ (by simp only [Ax.runDK, Ax.runDT, Ax.runDops, Ax.run1d, Ax.recs, Ax.okPair, Ax.idsE, Ax.idsV, AOp.mems, AOp.isWrite, DRec.none, axD, Ax.runK, Ax.runOps, Ax.run1, Ax.wantA, Ax.step, Ax.ev, Ax.evs, Ax.evo, Ax.evp, Ax.look, Ax.putE, Ax.keepE, Ax.argsE, Ax.extr, Ax.binV, Ax.intBin, Ax.unV, Ax.addOff, Ax.sizeN, Ax.mkV, Ax.okV, reduceIte, Nat.reduceEqDiff, Nat.reduceAdd, Nat.reduceLeDiff, Nat.reduceLT, Nat.reduceSub, Nat.reduceMul, reduceCtorEq, Int.reduceEq, Int.reduceLT, Int.reduceLE, Int.reduceAdd, Int.reduceSub, Int.reduceNeg, Int.reduceToNat, undef, Value.cells, axL, f1, f3]; rfl) rfl ?_
      | (with_reducible first | refine end_reg (Ev.mono _ _) ?_ | refine end_dreg (Ev.mono _ _) ?_ | refine end_cond (Ev.mono _ _) ?_ | refine end_block (Ev.mono _ _) ?_ | refine end_loop (Ev.mono _ _) ?_))
    repeat' (with_reducible first | refine go_assoc ?_ (Ev.mono _ _) | refine go_skip ?_ | refine go_block ?_ | refine end_reg (Ev.mono _ _) ?_)
    refine go_callN 3 _ (by simp only [Ax.runN, Ax.runK, Ax.runOps, Ax.run1, Ax.wantA, Ax.step, Ax.ev, Ax.evs, Ax.evo, Ax.evp, Ax.look, Ax.putE, Ax.keepE, Ax.argsE, Ax.extr, Ax.binV, Ax.intBin, Ax.unV, Ax.addOff, Ax.sizeN, Ax.mkV, Ax.okV, reduceIte, Nat.reduceEqDiff, Nat.reduceAdd, Nat.reduceLeDiff, Nat.reduceLT, Nat.reduceSub, Nat.reduceMul, reduceCtorEq, Int.reduceEq, Int.reduceLT, Int.reduceLE, Int.reduceAdd, Int.reduceSub, Int.reduceNeg, Int.reduceToNat, undef, Value.cells, axL]; rfl) rfl rfl (by simp only [Ax.wantA, Ax.look, reduceIte, Nat.reduceEqDiff, bq_t, bq_f, Bool.not_true, Bool.not_false]; try rfl) rfl (by simp only [Ax.runK, Ax.runOps, Ax.run1, Ax.wantA, Ax.step, Ax.ev, Ax.evs, Ax.evo, Ax.evp, Ax.look, Ax.putE, Ax.keepE, Ax.argsE, Ax.extr, Ax.binV, Ax.intBin, Ax.unV, Ax.addOff, Ax.sizeN, Ax.mkV, Ax.okV, reduceIte, Nat.reduceEqDiff, Nat.reduceAdd, Nat.reduceLeDiff, Nat.reduceLT, Nat.reduceSub, Nat.reduceMul, reduceCtorEq, Int.reduceEq, Int.reduceLT, Int.reduceLE, Int.reduceAdd, Int.reduceSub, Int.reduceNeg, Int.reduceToNat, undef, Value.cells, axL]; try rfl) ?_
    refine put_spec XL H2 (by have := hs.len; omega) (fun y hy => ?_) (by unfold I64; omega) l[k] k (fun hm => ?_) (fun hm S3 H3 => ?_)
    · obtain ⟨j, hj, rfl⟩ := hs.mem hy
      simp only [itemOf]; omega
    · exfalso
      obtain ⟨j, hj, e⟩ := (hs.x k).1 hm
      omega
    · have hs3 := hs.step l[k] (by simp [hkl])
      repeat' (with_reducible first | refine go_assoc ?_ (Ev.mono _ _) | refine go_skip ?_ | refine go_block ?_ | refine end_reg (Ev.mono _ _) ?_)
      refine go_callN 5 _ (by simp only [Ax.runN, Ax.runK, Ax.runOps, Ax.run1, Ax.wantA, Ax.step, Ax.ev, Ax.evs, Ax.evo, Ax.evp, Ax.look, Ax.putE, Ax.keepE, Ax.argsE, Ax.extr, Ax.binV, Ax.intBin, Ax.unV, Ax.addOff, Ax.sizeN, Ax.mkV, Ax.okV, reduceIte, Nat.reduceEqDiff, Nat.reduceAdd, Nat.reduceLeDiff, Nat.reduceLT, Nat.reduceSub, Nat.reduceMul, reduceCtorEq, Int.reduceEq, Int.reduceLT, Int.reduceLE, Int.reduceAdd, Int.reduceSub, Int.reduceNeg, Int.reduceToNat, undef, Value.cells, axL]; rfl) rfl rfl (by simp only [Ax.wantA, Ax.look, reduceIte, Nat.reduceEqDiff, bq_t, bq_f, Bool.not_true, Bool.not_false]; try rfl) rfl (by simp only [Ax.runK, Ax.runOps, Ax.run1, Ax.wantA, Ax.step, Ax.ev, Ax.evs, Ax.evo, Ax.evp, Ax.look, Ax.putE, Ax.keepE, Ax.argsE, Ax.extr, Ax.binV, Ax.intBin, Ax.unV, Ax.addOff, Ax.sizeN, Ax.mkV, Ax.okV, reduceIte, Nat.reduceEqDiff, Nat.reduceAdd, Nat.reduceLeDiff, Nat.reduceLT, Nat.reduceSub, Nat.reduceMul, reduceCtorEq, Int.reduceEq, Int.reduceLT, Int.reduceLE, Int.reduceAdd, Int.reduceSub, Int.reduceNeg, Int.reduceToNat, undef, Value.cells, axL]; try rfl) ?_
      refine put_spec XL H3 (by have := hs3.len; omega) (fun y hy => ?_) (by unfold I64; omega) l[k] k (fun hm => ?_) (fun hm S4 H4 => ?_)
      · obtain ⟨j, hj, rfl⟩ := hs3.mem hy
        simp only [itemOf]; omega
      · repeat' (first
      | (with_reducible first | refine go_assoc ?_ (Ev.mono _ _) | refine go_skip ?_ | refine go_fin ?_ | refine go_ret ?_ | refine go_ret0 ?_ | refine go_exit ?_ | refine go_exit0 ?_ | refine go_block ?_ | refine n_then ?_ | refine x_then ?_ | refine r_then ?_ | refine n_block ?_ | refine r_block ?_ | refine x_block ?_ | refine x_block_ne ?_ (by decide))
      | (with_reducible refine is_k ?_; refine go_k _ (by simp only [Ax.runK, Ax.runOps, Ax.run1, Ax.wantA, Ax.step, Ax.ev, Ax.evs, Ax.evo, Ax.evp, Ax.look, Ax.putE, Ax.keepE, Ax.argsE, Ax.extr, Ax.binV, Ax.intBin, Ax.unV, Ax.addOff, Ax.sizeN, Ax.mkV, Ax.okV, reduceIte, Nat.reduceEqDiff, Nat.reduceAdd, Nat.reduceLeDiff, Nat.reduceLT, Nat.reduceSub, Nat.reduceMul, reduceCtorEq, Int.reduceEq, Int.reduceLT, Int.reduceLE, Int.reduceAdd, Int.reduceSub, Int.reduceNeg, Int.reduceToNat, undef, Value.cells, axL, wk]; rfl) rfl ?_)
      | (with_reducible refine cond_t ?_ ?_; · simp only [Ax.ev, Ax.look, reduceIte, Nat.reduceEqDiff])
      | (with_reducible refine cond_f ?_ ?_; · simp only [Ax.ev, Ax.look, reduceIte, Nat.reduceEqDiff])
      | (with_reducible refine is_rp ?_; first | refine r_postR rfl ?_ | refine r_postR (by simp only [Ax.result, Ax.resVs, Ax.resV, R3, Ax.look, sizeN, mkV, Nat.reduceEqDiff, reduceIte, axL, wk]; rfl) ?_)
      | (with_reducible refine is_np ?_; first | refine n_postR rfl ?_ | refine n_postR (by simp only [Ax.result, Ax.resVs, Ax.resV, R3, Ax.look, sizeN, mkV, Nat.reduceEqDiff, reduceIte, axL, wk]; rfl) ?_)
      | (first | with_reducible refine is_wd ?_ | with_reducible refine dk_wd ?_); refine go_dt _ (by simp only [Ax.runDK, Ax.runDT, Ax.runDops, Ax.run1d, Ax.recs, Ax.okPair, Ax.idsE, Ax.idsV, AOp.mems, AOp.isWrite, DRec.none, axD, Ax.runK, Ax.runOps, Ax.run1, Ax.wantA, Ax.step, Ax.ev, Ax.evs, Ax.evo, Ax.evp, Ax.look, Ax.putE, Ax.keepE, Ax.argsE, Ax.extr, Ax.binV, Ax.intBin, Ax.unV, Ax.addOff, Ax.sizeN, Ax.mkV, Ax.okV, reduceIte, Nat.reduceEqDiff, Nat.reduceAdd, Nat.reduceLeDiff, Nat.reduceLT, Nat.reduceSub, Nat.reduceMul, reduceCtorEq, Int.reduceEq, Int.reduceLT, Int.reduceLE, Int.reduceAdd, Int.reduceSub, Int.reduceNeg, Int.reduceToNat, undef, Value.cells, axL, wk]; rfl) rfl ?_
      | (with_reducible first | refine end_reg (Ev.mono _ _) ?_ | refine end_dreg (Ev.mono _ _) ?_ | refine end_cond (Ev.mono _ _) ?_ | refine end_block (Ev.mono _ _) ?_ | refine end_loop (Ev.mono _ _) ?_))
        exact ⟨k + 1, by omega, hkl, rfl, _, hs3, H3⟩
      · exfalso
        exact hm ((hs3.x k).2 ⟨k, by omega, rfl⟩)
  · have hkn : k = l.length := by omega
    subst hkn
    repeat' (first
      | (with_reducible first | refine go_assoc ?_ (Ev.mono _ _) | refine go_skip ?_ | refine go_fin ?_ | refine go_ret ?_ | refine go_ret0 ?_ | refine go_exit ?_ | refine go_exit0 ?_ | refine go_block ?_ | refine n_then ?_ | refine x_then ?_ | refine r_then ?_ | refine n_block ?_ | refine r_block ?_ | refine x_block ?_ | refine x_block_ne ?_ (by decide))
      | (with_reducible refine is_k ?_; refine go_k _ (by simp only [Ax.runK, Ax.runOps, Ax.run1, Ax.wantA, Ax.step, Ax.ev, Ax.evs, Ax.evo, Ax.evp, Ax.look, Ax.putE, Ax.keepE, Ax.argsE, Ax.extr, Ax.binV, Ax.intBin, Ax.unV, Ax.addOff, Ax.sizeN, Ax.mkV, Ax.okV, reduceIte, Nat.reduceEqDiff, Nat.reduceAdd, Nat.reduceLeDiff, Nat.reduceLT, Nat.reduceSub, Nat.reduceMul, reduceCtorEq, Int.reduceEq, Int.reduceLT, Int.reduceLE, Int.reduceAdd, Int.reduceSub, Int.reduceNeg, Int.reduceToNat, undef, Value.cells, axL, hvl']; rfl) rfl ?_)
      | (with_reducible refine cond_t ?_ ?_; · simp only [Ax.ev, Ax.look, reduceIte, Nat.reduceEqDiff])
      | (with_reducible refine cond_f ?_ ?_; · simp only [Ax.ev, Ax.look, reduceIte, Nat.reduceEqDiff])
      | (with_reducible refine is_rp ?_; first | refine r_postR rfl ?_ | refine r_postR (by simp only [Ax.result, Ax.resVs, Ax.resV, R3, Ax.look, sizeN, mkV, Nat.reduceEqDiff, reduceIte, axL, hvl']; rfl) ?_)
      | (with_reducible refine is_np ?_; first | refine n_postR rfl ?_ | refine n_postR (by simp only [Ax.result, Ax.resVs, Ax.resV, R3, Ax.look, sizeN, mkV, Nat.reduceEqDiff, reduceIte, axL, hvl']; rfl) ?_)
      | (first | with_reducible refine is_wd ?_ | with_reducible refine dk_wd ?_); refine go_dt _ (by simp only [Ax.runDK, Ax.runDT, Ax.runDops, Ax.run1d, Ax.recs, Ax.okPair, Ax.idsE, Ax.idsV, AOp.mems, AOp.isWrite, DRec.none, axD, Ax.runK, Ax.runOps, Ax.run1, Ax.wantA, Ax.step, Ax.ev, Ax.evs, Ax.evo, Ax.evp, Ax.look, Ax.putE, Ax.keepE, Ax.argsE, Ax.extr, Ax.binV, Ax.intBin, Ax.unV, Ax.addOff, Ax.sizeN, Ax.mkV, Ax.okV, reduceIte, Nat.reduceEqDiff, Nat.reduceAdd, Nat.reduceLeDiff, Nat.reduceLT, Nat.reduceSub, Nat.reduceMul, reduceCtorEq, Int.reduceEq, Int.reduceLT, Int.reduceLE, Int.reduceAdd, Int.reduceSub, Int.reduceNeg, Int.reduceToNat, undef, Value.cells, axL, hvl']; rfl) rfl ?_
      | (with_reducible first | refine end_reg (Ev.mono _ _) ?_ | refine end_dreg (Ev.mono _ _) ?_ | refine end_cond (Ev.mono _ _) ?_ | refine end_block (Ev.mono _ _) ?_ | refine end_loop (Ev.mono _ _) ?_))
    obtain ⟨s0, hs0⟩ : ∃ s0, s0 = s := ⟨_, rfl⟩
    have hmem : ∀ y ∈ s, ∃ j, j < l.length ∧ y = itemOf l j := fun y hy => hs.mem hy
    have hsl := hs.len
    have hso := hs.sorted
    obtain ⟨sq, hsq⟩ : ∃ sq : Int, sq = l.length := ⟨_, rfl⟩
    rw [← hsq] at H2
    clear hsq
    clear hs0 hs s0 wk hlt H H1
    refine go_loop (Ev.mono _ _) (fun (g : Nat × Int × Int) ρ S' => g.1 ≤ l.length ∧ ρ = [(43, .int .i64 g.1), (7, .int .i64 g.2.1), (6, .int .i64 g.2.2), (0, v'), (3, .pointer (some ⟨hd, 0, none⟩)), (42, .int .i64 l.length)] ∧ ∃ s, (∀ y ∈ s, ∃ j, j < l.length ∧ y = itemOf l j) ∧ s.length = l.length - g.1 ∧ Sorted s ∧ (0 < g.1 → ∀ y ∈ s, g.2.2 < y.when ∨ g.2.2 = y.when ∧ g.2.1 < y.x) ∧ St R (HeapA hd s sq :: F) S') (fun g => l.length - g.1) (0, -1, 0) ⟨Nat.zero_le _, rfl, s, hmem, by rw [hsl]; rfl, hso, fun h => absurd h (Nat.lt_irrefl _), H2⟩ ?_
    clear hmem hsl hso H2 hk
    rintro ⟨k, lx, lw⟩ ρ S3 ⟨hk, rfl, s, hmem, hsl, hso, hlast, H2⟩
    dsimp only at hk hsl hlast
    have wk : IntKind.wrap .i64 ((k : Int) + 1) = ((k + 1 : Nat) : Int) := wrapI (n := (k : Int) + 1) (by unfold I64; omega)
    repeat' (first
      | (with_reducible first | refine go_assoc ?_ (Ev.mono _ _) | refine go_skip ?_ | refine go_fin ?_ | refine go_ret ?_ | refine go_ret0 ?_ | refine go_exit ?_ | refine go_exit0 ?_ | refine go_block ?_ | refine n_then ?_ | refine x_then ?_ | refine r_then ?_ | refine n_block ?_ | refine r_block ?_ | refine x_block ?_ | refine x_block_ne ?_ (by decide))
      | (with_reducible refine is_k ?_; refine go_k _ (by simp only [Ax.runK, Ax.runOps, Ax.run1, Ax.wantA, Ax.step, Ax.ev, Ax.evs, Ax.evo, Ax.evp, Ax.look, Ax.putE, Ax.keepE, Ax.argsE, Ax.extr, Ax.binV, Ax.intBin, Ax.unV, Ax.addOff, Ax.sizeN, Ax.mkV, Ax.okV, reduceIte, Nat.reduceEqDiff, Nat.reduceAdd, Nat.reduceLeDiff, Nat.reduceLT, Nat.reduceSub, Nat.reduceMul, reduceCtorEq, Int.reduceEq, Int.reduceLT, Int.reduceLE, Int.reduceAdd, Int.reduceSub, Int.reduceNeg, Int.reduceToNat, undef, Value.cells, axL]; rfl) rfl ?_)
      | (with_reducible refine cond_t ?_ ?_; · simp only [Ax.ev, Ax.look, reduceIte, Nat.reduceEqDiff])
      | (with_reducible refine cond_f ?_ ?_; · simp only [Ax.ev, Ax.look, reduceIte, Nat.reduceEqDiff])
      | (with_reducible refine is_rp ?_; first | refine r_postR rfl ?_ | refine r_postR (by simp only [Ax.result, Ax.resVs, Ax.resV, R3, Ax.look, sizeN, mkV, Nat.reduceEqDiff, reduceIte, axL]; rfl) ?_)
      | (with_reducible refine is_np ?_; first | refine n_postR rfl ?_ | refine n_postR (by simp only [Ax.result, Ax.resVs, Ax.resV, R3, Ax.look, sizeN, mkV, Nat.reduceEqDiff, reduceIte, axL]; rfl) ?_)
      | (first | with_reducible refine is_wd ?_ | with_reducible refine dk_wd ?_); refine go_dt _ (by simp only [Ax.runDK, Ax.runDT, Ax.runDops, Ax.run1d, Ax.recs, Ax.okPair, Ax.idsE, Ax.idsV, AOp.mems, AOp.isWrite, DRec.none, axD, Ax.runK, Ax.runOps, Ax.run1, Ax.wantA, Ax.step, Ax.ev, Ax.evs, Ax.evo, Ax.evp, Ax.look, Ax.putE, Ax.keepE, Ax.argsE, Ax.extr, Ax.binV, Ax.intBin, Ax.unV, Ax.addOff, Ax.sizeN, Ax.mkV, Ax.okV, reduceIte, Nat.reduceEqDiff, Nat.reduceAdd, Nat.reduceLeDiff, Nat.reduceLT, Nat.reduceSub, Nat.reduceMul, reduceCtorEq, Int.reduceEq, Int.reduceLT, Int.reduceLE, Int.reduceAdd, Int.reduceSub, Int.reduceNeg, Int.reduceToNat, undef, Value.cells, axL]; rfl) rfl ?_
      | (with_reducible first | refine end_reg (Ev.mono _ _) ?_ | refine end_dreg (Ev.mono _ _) ?_ | refine end_cond (Ev.mono _ _) ?_ | refine end_block (Ev.mono _ _) ?_ | refine end_loop (Ev.mono _ _) ?_))
    refine cond_d rfl (fun hlt => ?_) (fun hlt => ?_)
    · have hkl : k < l.length := by omega
      repeat' (first
      | (with_reducible first | refine go_assoc ?_ (Ev.mono _ _) | refine go_skip ?_ | refine go_fin ?_ | refine go_ret ?_ | refine go_ret0 ?_ | refine go_exit ?_ | refine go_exit0 ?_ | refine go_block ?_ | refine n_then ?_ | refine x_then ?_ | refine r_then ?_ | refine n_block ?_ | refine r_block ?_ | refine x_block ?_ | refine x_block_ne ?_ (by decide))
      | (with_reducible refine is_k ?_; refine go_k _ (by simp only [Ax.runK, Ax.runOps, Ax.run1, Ax.wantA, Ax.step, Ax.ev, Ax.evs, Ax.evo, Ax.evp, Ax.look, Ax.putE, Ax.keepE, Ax.argsE, Ax.extr, Ax.binV, Ax.intBin, Ax.unV, Ax.addOff, Ax.sizeN, Ax.mkV, Ax.okV, reduceIte, Nat.reduceEqDiff, Nat.reduceAdd, Nat.reduceLeDiff, Nat.reduceLT, Nat.reduceSub, Nat.reduceMul, reduceCtorEq, Int.reduceEq, Int.reduceLT, Int.reduceLE, Int.reduceAdd, Int.reduceSub, Int.reduceNeg, Int.reduceToNat, undef, Value.cells, axL]; rfl) rfl ?_)
      | (with_reducible refine cond_t ?_ ?_; · simp only [Ax.ev, Ax.look, reduceIte, Nat.reduceEqDiff])
      | (with_reducible refine cond_f ?_ ?_; · simp only [Ax.ev, Ax.look, reduceIte, Nat.reduceEqDiff])
      | (with_reducible refine is_rp ?_; first | refine r_postR rfl ?_ | refine r_postR (by simp only [Ax.result, Ax.resVs, Ax.resV, R3, Ax.look, sizeN, mkV, Nat.reduceEqDiff, reduceIte, axL]; rfl) ?_)
      | (with_reducible refine is_np ?_; first | refine n_postR rfl ?_ | refine n_postR (by simp only [Ax.result, Ax.resVs, Ax.resV, R3, Ax.look, sizeN, mkV, Nat.reduceEqDiff, reduceIte, axL]; rfl) ?_)
      | (first | with_reducible refine is_wd ?_ | with_reducible refine dk_wd ?_); refine go_dt _ (by simp only [Ax.runDK, Ax.runDT, Ax.runDops, Ax.run1d, Ax.recs, Ax.okPair, Ax.idsE, Ax.idsV, AOp.mems, AOp.isWrite, DRec.none, axD, Ax.runK, Ax.runOps, Ax.run1, Ax.wantA, Ax.step, Ax.ev, Ax.evs, Ax.evo, Ax.evp, Ax.look, Ax.putE, Ax.keepE, Ax.argsE, Ax.extr, Ax.binV, Ax.intBin, Ax.unV, Ax.addOff, Ax.sizeN, Ax.mkV, Ax.okV, reduceIte, Nat.reduceEqDiff, Nat.reduceAdd, Nat.reduceLeDiff, Nat.reduceLT, Nat.reduceSub, Nat.reduceMul, reduceCtorEq, Int.reduceEq, Int.reduceLT, Int.reduceLE, Int.reduceAdd, Int.reduceSub, Int.reduceNeg, Int.reduceToNat, undef, Value.cells, axL]; rfl) rfl ?_
      | (with_reducible first | refine end_reg (Ev.mono _ _) ?_ | refine end_dreg (Ev.mono _ _) ?_ | refine end_cond (Ev.mono _ _) ?_ | refine end_block (Ev.mono _ _) ?_ | refine end_loop (Ev.mono _ _) ?_))
      repeat' (with_reducible first | refine go_assoc ?_ (Ev.mono _ _) | refine go_skip ?_ | refine go_block ?_ | refine end_reg (Ev.mono _ _) ?_)
      refine go_callN 1 _ (by simp only [Ax.runN, Ax.runK, Ax.runOps, Ax.run1, Ax.wantA, Ax.step, Ax.ev, Ax.evs, Ax.evo, Ax.evp, Ax.look, Ax.putE, Ax.keepE, Ax.argsE, Ax.extr, Ax.binV, Ax.intBin, Ax.unV, Ax.addOff, Ax.sizeN, Ax.mkV, Ax.okV, reduceIte, Nat.reduceEqDiff, Nat.reduceAdd, Nat.reduceLeDiff, Nat.reduceLT, Nat.reduceSub, Nat.reduceMul, reduceCtorEq, Int.reduceEq, Int.reduceLT, Int.reduceLE, Int.reduceAdd, Int.reduceSub, Int.reduceNeg, Int.reduceToNat, undef, Value.cells, axL]; rfl) rfl rfl (by simp only [Ax.wantA, Ax.look, reduceIte, Nat.reduceEqDiff, bq_t, bq_f, Bool.not_true, Bool.not_false]; try rfl) rfl (by simp only [Ax.runK, Ax.runOps, Ax.run1, Ax.wantA, Ax.step, Ax.ev, Ax.evs, Ax.evo, Ax.evp, Ax.look, Ax.putE, Ax.keepE, Ax.argsE, Ax.extr, Ax.binV, Ax.intBin, Ax.unV, Ax.addOff, Ax.sizeN, Ax.mkV, Ax.okV, reduceIte, Nat.reduceEqDiff, Nat.reduceAdd, Nat.reduceLeDiff, Nat.reduceLT, Nat.reduceSub, Nat.reduceMul, reduceCtorEq, Int.reduceEq, Int.reduceLT, Int.reduceLE, Int.reduceAdd, Int.reduceSub, Int.reduceNeg, Int.reduceToNat, undef, Value.cells, axL]; try rfl) ?_
      refine pop_spec XL H2 (by omega) (fun h0 => by subst h0; simp at hsl; omega) (fun a t S4 hat H4 => ?_)
      subst hat
      obtain ⟨j, hj, ha⟩ := hmem a (by simp)
      have hax : a.x = (j : Int) := by rw [ha]; rfl
      have haw : a.when = l[j] := by rw [ha]; simp [itemOf, hj]
      obtain ⟨b, c, f1, f2, f3, f4⟩ := RdT.at (hv'.rd H4) hj .i64
      have x0 : ¬ (j : Int) < 0 := by omega
      have xn : ¬ (l.length : Int) ≤ (j : Int) := by omega
      obtain ⟨hlt', hso'⟩ := List.pairwise_cons.1 hso
      have hkeep : ∀ y ∈ t, l[j] < y.when ∨ l[j] = y.when ∧ (j : Int) < y.x := fun y hy => by
        have h1 := hlt' y hy
        obtain ⟨j', _, rfl⟩ := hmem y (by simp [hy])
        rw [ha] at h1
        simp only [ltI, itemOf, List.getD_eq_getElem?_getD, List.getElem?_eq_getElem hj, Option.getD_some] at h1 ⊢
        exact h1
      have fin : ∃ s', (∀ y ∈ s', ∃ j, j < l.length ∧ y = itemOf l j) ∧ s'.length = l.length - (k + 1) ∧ Sorted s' ∧ (0 < k + 1 → ∀ y ∈ s', l[j] < y.when ∨ l[j] = y.when ∧ (j : Int) < y.x) ∧ St R (HeapA hd s' sq :: F) S4 :=
        ⟨t, fun y hy => hmem y (by simp [hy]), by simp at hsl; omega, hso', fun _ => hkeep, H4⟩
      by_cases hk0 : 0 < k
      · have hk0' : 0 < (k : Int) := by omega
        have hla := hlast hk0 a (by simp)
        rw [hax, haw] at hla
        have c1 : ¬ l[j] < lw := by omega
        by_cases c2 : l[j] = lw
        · have c3 : ¬ (j : Int) ≤ lx := by omega
          rw [← c2] at c1
          repeat' (first
      | (with_reducible first | refine go_assoc ?_ (Ev.mono _ _) | refine go_skip ?_ | refine go_fin ?_ | refine go_ret ?_ | refine go_ret0 ?_ | refine go_exit ?_ | refine go_exit0 ?_ | refine go_block ?_ | refine n_then ?_ | refine x_then ?_ | refine r_then ?_ | refine n_block ?_ | refine r_block ?_ | refine x_block ?_ | refine x_block_ne ?_ (by decide))
      | (with_reducible refine is_k ?_; refine go_k _ (by simp only [Ax.runK, Ax.runOps, Ax.run1, Ax.wantA, Ax.step, Ax.ev, Ax.evs, Ax.evo, Ax.evp, Ax.look, Ax.putE, Ax.keepE, Ax.argsE, Ax.extr, Ax.binV, Ax.intBin, Ax.unV, Ax.addOff, Ax.sizeN, Ax.mkV, Ax.okV, reduceIte, Nat.reduceEqDiff, Nat.reduceAdd, Nat.reduceLeDiff, Nat.reduceLT, Nat.reduceSub, Nat.reduceMul, reduceCtorEq, Int.reduceEq, Int.reduceLT, Int.reduceLE, Int.reduceAdd, Int.reduceSub, Int.reduceNeg, Int.reduceToNat, undef, Value.cells, axL, hax, haw, x0, xn, hvl', f1, f3, hk0', c1, ← c2, c3, wk]; rfl) rfl ?_)
      | (with_reducible refine cond_t ?_ ?_; · simp only [Ax.ev, Ax.look, reduceIte, Nat.reduceEqDiff])
      | (with_reducible refine cond_f ?_ ?_; · simp only [Ax.ev, Ax.look, reduceIte, Nat.reduceEqDiff])
      | (with_reducible refine is_rp ?_; first | refine r_postR rfl ?_ | refine r_postR (by simp only [Ax.result, Ax.resVs, Ax.resV, R3, Ax.look, sizeN, mkV, Nat.reduceEqDiff, reduceIte, axL, hax, haw, x0, xn, hvl', f1, f3, hk0', c1, ← c2, c3, wk]; rfl) ?_)
      | (with_reducible refine is_np ?_; first | refine n_postR rfl ?_ | refine n_postR (by simp only [Ax.result, Ax.resVs, Ax.resV, R3, Ax.look, sizeN, mkV, Nat.reduceEqDiff, reduceIte, axL, hax, haw, x0, xn, hvl', f1, f3, hk0', c1, ← c2, c3, wk]; rfl) ?_)
      | (first | with_reducible refine is_wd ?_ | with_reducible refine dk_wd ?_); refine go_dt _ (by simp only [Ax.runDK, Ax.runDT, Ax.runDops, Ax.run1d, Ax.recs, Ax.okPair, Ax.idsE, Ax.idsV, AOp.mems, AOp.isWrite, DRec.none, axD, Ax.runK, Ax.runOps, Ax.run1, Ax.wantA, Ax.step, Ax.ev, Ax.evs, Ax.evo, Ax.evp, Ax.look, Ax.putE, Ax.keepE, Ax.argsE, Ax.extr, Ax.binV, Ax.intBin, Ax.unV, Ax.addOff, Ax.sizeN, Ax.mkV, Ax.okV, reduceIte, Nat.reduceEqDiff, Nat.reduceAdd, Nat.reduceLeDiff, Nat.reduceLT, Nat.reduceSub, Nat.reduceMul, reduceCtorEq, Int.reduceEq, Int.reduceLT, Int.reduceLE, Int.reduceAdd, Int.reduceSub, Int.reduceNeg, Int.reduceToNat, undef, Value.cells, axL, hax, haw, x0, xn, hvl', f1, f3, hk0', c1, ← c2, c3, wk]; rfl) rfl ?_
      | (with_reducible first | refine end_reg (Ev.mono _ _) ?_ | refine end_dreg (Ev.mono _ _) ?_ | refine end_cond (Ev.mono _ _) ?_ | refine end_block (Ev.mono _ _) ?_ | refine end_loop (Ev.mono _ _) ?_))
          exact ⟨(k + 1, (j : Int), l[j]), by dsimp only; omega, hkl, rfl, fin⟩
        · repeat' (first
      | (with_reducible first | refine go_assoc ?_ (Ev.mono _ _) | refine go_skip ?_ | refine go_fin ?_ | refine go_ret ?_ | refine go_ret0 ?_ | refine go_exit ?_ | refine go_exit0 ?_ | refine go_block ?_ | refine n_then ?_ | refine x_then ?_ | refine r_then ?_ | refine n_block ?_ | refine r_block ?_ | refine x_block ?_ | refine x_block_ne ?_ (by decide))
      | (with_reducible refine is_k ?_; refine go_k _ (by simp only [Ax.runK, Ax.runOps, Ax.run1, Ax.wantA, Ax.step, Ax.ev, Ax.evs, Ax.evo, Ax.evp, Ax.look, Ax.putE, Ax.keepE, Ax.argsE, Ax.extr, Ax.binV, Ax.intBin, Ax.unV, Ax.addOff, Ax.sizeN, Ax.mkV, Ax.okV, reduceIte, Nat.reduceEqDiff, Nat.reduceAdd, Nat.reduceLeDiff, Nat.reduceLT, Nat.reduceSub, Nat.reduceMul, reduceCtorEq, Int.reduceEq, Int.reduceLT, Int.reduceLE, Int.reduceAdd, Int.reduceSub, Int.reduceNeg, Int.reduceToNat, undef, Value.cells, axL, hax, haw, x0, xn, hvl', f1, f3, hk0', c1, c2, wk]; rfl) rfl ?_)
      | (with_reducible refine cond_t ?_ ?_; · simp only [Ax.ev, Ax.look, reduceIte, Nat.reduceEqDiff])
      | (with_reducible refine cond_f ?_ ?_; · simp only [Ax.ev, Ax.look, reduceIte, Nat.reduceEqDiff])
      | (with_reducible refine is_rp ?_; first | refine r_postR rfl ?_ | refine r_postR (by simp only [Ax.result, Ax.resVs, Ax.resV, R3, Ax.look, sizeN, mkV, Nat.reduceEqDiff, reduceIte, axL, hax, haw, x0, xn, hvl', f1, f3, hk0', c1, c2, wk]; rfl) ?_)
      | (with_reducible refine is_np ?_; first | refine n_postR rfl ?_ | refine n_postR (by simp only [Ax.result, Ax.resVs, Ax.resV, R3, Ax.look, sizeN, mkV, Nat.reduceEqDiff, reduceIte, axL, hax, haw, x0, xn, hvl', f1, f3, hk0', c1, c2, wk]; rfl) ?_)
      | (first | with_reducible refine is_wd ?_ | with_reducible refine dk_wd ?_); refine go_dt _ (by simp only [Ax.runDK, Ax.runDT, Ax.runDops, Ax.run1d, Ax.recs, Ax.okPair, Ax.idsE, Ax.idsV, AOp.mems, AOp.isWrite, DRec.none, axD, Ax.runK, Ax.runOps, Ax.run1, Ax.wantA, Ax.step, Ax.ev, Ax.evs, Ax.evo, Ax.evp, Ax.look, Ax.putE, Ax.keepE, Ax.argsE, Ax.extr, Ax.binV, Ax.intBin, Ax.unV, Ax.addOff, Ax.sizeN, Ax.mkV, Ax.okV, reduceIte, Nat.reduceEqDiff, Nat.reduceAdd, Nat.reduceLeDiff, Nat.reduceLT, Nat.reduceSub, Nat.reduceMul, reduceCtorEq, Int.reduceEq, Int.reduceLT, Int.reduceLE, Int.reduceAdd, Int.reduceSub, Int.reduceNeg, Int.reduceToNat, undef, Value.cells, axL, hax, haw, x0, xn, hvl', f1, f3, hk0', c1, c2, wk]; rfl) rfl ?_
      | (with_reducible first | refine end_reg (Ev.mono _ _) ?_ | refine end_dreg (Ev.mono _ _) ?_ | refine end_cond (Ev.mono _ _) ?_ | refine end_block (Ev.mono _ _) ?_ | refine end_loop (Ev.mono _ _) ?_))
          exact ⟨(k + 1, (j : Int), l[j]), by dsimp only; omega, hkl, rfl, fin⟩
      · have hk0' : ¬ 0 < (k : Int) := by omega
        repeat' (first
      | (with_reducible first | refine go_assoc ?_ (Ev.mono _ _) | refine go_skip ?_ | refine go_fin ?_ | refine go_ret ?_ | refine go_ret0 ?_ | refine go_exit ?_ | refine go_exit0 ?_ | refine go_block ?_ | refine n_then ?_ | refine x_then ?_ | refine r_then ?_ | refine n_block ?_ | refine r_block ?_ | refine x_block ?_ | refine x_block_ne ?_ (by decide))
      | (with_reducible refine is_k ?_; refine go_k _ (by simp only [Ax.runK, Ax.runOps, Ax.run1, Ax.wantA, Ax.step, Ax.ev, Ax.evs, Ax.evo, Ax.evp, Ax.look, Ax.putE, Ax.keepE, Ax.argsE, Ax.extr, Ax.binV, Ax.intBin, Ax.unV, Ax.addOff, Ax.sizeN, Ax.mkV, Ax.okV, reduceIte, Nat.reduceEqDiff, Nat.reduceAdd, Nat.reduceLeDiff, Nat.reduceLT, Nat.reduceSub, Nat.reduceMul, reduceCtorEq, Int.reduceEq, Int.reduceLT, Int.reduceLE, Int.reduceAdd, Int.reduceSub, Int.reduceNeg, Int.reduceToNat, undef, Value.cells, axL, hax, haw, x0, xn, hvl', f1, f3, hk0', wk]; rfl) rfl ?_)
      | (with_reducible refine cond_t ?_ ?_; · simp only [Ax.ev, Ax.look, reduceIte, Nat.reduceEqDiff])
      | (with_reducible refine cond_f ?_ ?_; · simp only [Ax.ev, Ax.look, reduceIte, Nat.reduceEqDiff])
      | (with_reducible refine is_rp ?_; first | refine r_postR rfl ?_ | refine r_postR (by simp only [Ax.result, Ax.resVs, Ax.resV, R3, Ax.look, sizeN, mkV, Nat.reduceEqDiff, reduceIte, axL, hax, haw, x0, xn, hvl', f1, f3, hk0', wk]; rfl) ?_)
      | (with_reducible refine is_np ?_; first | refine n_postR rfl ?_ | refine n_postR (by simp only [Ax.result, Ax.resVs, Ax.resV, R3, Ax.look, sizeN, mkV, Nat.reduceEqDiff, reduceIte, axL, hax, haw, x0, xn, hvl', f1, f3, hk0', wk]; rfl) ?_)
      | (first | with_reducible refine is_wd ?_ | with_reducible refine dk_wd ?_); refine go_dt _ (by simp only [Ax.runDK, Ax.runDT, Ax.runDops, Ax.run1d, Ax.recs, Ax.okPair, Ax.idsE, Ax.idsV, AOp.mems, AOp.isWrite, DRec.none, axD, Ax.runK, Ax.runOps, Ax.run1, Ax.wantA, Ax.step, Ax.ev, Ax.evs, Ax.evo, Ax.evp, Ax.look, Ax.putE, Ax.keepE, Ax.argsE, Ax.extr, Ax.binV, Ax.intBin, Ax.unV, Ax.addOff, Ax.sizeN, Ax.mkV, Ax.okV, reduceIte, Nat.reduceEqDiff, Nat.reduceAdd, Nat.reduceLeDiff, Nat.reduceLT, Nat.reduceSub, Nat.reduceMul, reduceCtorEq, Int.reduceEq, Int.reduceLT, Int.reduceLE, Int.reduceAdd, Int.reduceSub, Int.reduceNeg, Int.reduceToNat, undef, Value.cells, axL, hax, haw, x0, xn, hvl', f1, f3, hk0', wk]; rfl) rfl ?_
      | (with_reducible first | refine end_reg (Ev.mono _ _) ?_ | refine end_dreg (Ev.mono _ _) ?_ | refine end_cond (Ev.mono _ _) ?_ | refine end_block (Ev.mono _ _) ?_ | refine end_loop (Ev.mono _ _) ?_))
        exact ⟨(k + 1, (j : Int), l[j]), by dsimp only; omega, hkl, rfl, fin⟩
    · have hkn : k = l.length := by omega
      subst hkn
      have hs0 : s = [] := List.eq_nil_of_length_eq_zero (by omega)
      subst hs0
      repeat' (first
      | (with_reducible first | refine go_assoc ?_ (Ev.mono _ _) | refine go_skip ?_ | refine go_fin ?_ | refine go_ret ?_ | refine go_ret0 ?_ | refine go_exit ?_ | refine go_exit0 ?_ | refine go_block ?_ | refine n_then ?_ | refine x_then ?_ | refine r_then ?_ | refine n_block ?_ | refine r_block ?_ | refine x_block ?_ | refine x_block_ne ?_ (by decide))
      | (with_reducible refine is_k ?_; refine go_k _ (by simp only [Ax.runK, Ax.runOps, Ax.run1, Ax.wantA, Ax.step, Ax.ev, Ax.evs, Ax.evo, Ax.evp, Ax.look, Ax.putE, Ax.keepE, Ax.argsE, Ax.extr, Ax.binV, Ax.intBin, Ax.unV, Ax.addOff, Ax.sizeN, Ax.mkV, Ax.okV, reduceIte, Nat.reduceEqDiff, Nat.reduceAdd, Nat.reduceLeDiff, Nat.reduceLT, Nat.reduceSub, Nat.reduceMul, reduceCtorEq, Int.reduceEq, Int.reduceLT, Int.reduceLE, Int.reduceAdd, Int.reduceSub, Int.reduceNeg, Int.reduceToNat, undef, Value.cells, axL]; rfl) rfl ?_)
      | (with_reducible refine cond_t ?_ ?_; · simp only [Ax.ev, Ax.look, reduceIte, Nat.reduceEqDiff])
      | (with_reducible refine cond_f ?_ ?_; · simp only [Ax.ev, Ax.look, reduceIte, Nat.reduceEqDiff])
      | (with_reducible refine is_rp ?_; first | refine r_postR rfl ?_ | refine r_postR (by simp only [Ax.result, Ax.resVs, Ax.resV, R3, Ax.look, sizeN, mkV, Nat.reduceEqDiff, reduceIte, axL]; rfl) ?_)
      | (with_reducible refine is_np ?_; first | refine n_postR rfl ?_ | refine n_postR (by simp only [Ax.result, Ax.resVs, Ax.resV, R3, Ax.look, sizeN, mkV, Nat.reduceEqDiff, reduceIte, axL]; rfl) ?_)
      | (first | with_reducible refine is_wd ?_ | with_reducible refine dk_wd ?_); refine go_dt _ (by simp only [Ax.runDK, Ax.runDT, Ax.runDops, Ax.run1d, Ax.recs, Ax.okPair, Ax.idsE, Ax.idsV, AOp.mems, AOp.isWrite, DRec.none, axD, Ax.runK, Ax.runOps, Ax.run1, Ax.wantA, Ax.step, Ax.ev, Ax.evs, Ax.evo, Ax.evp, Ax.look, Ax.putE, Ax.keepE, Ax.argsE, Ax.extr, Ax.binV, Ax.intBin, Ax.unV, Ax.addOff, Ax.sizeN, Ax.mkV, Ax.okV, reduceIte, Nat.reduceEqDiff, Nat.reduceAdd, Nat.reduceLeDiff, Nat.reduceLT, Nat.reduceSub, Nat.reduceMul, reduceCtorEq, Int.reduceEq, Int.reduceLT, Int.reduceLE, Int.reduceAdd, Int.reduceSub, Int.reduceNeg, Int.reduceToNat, undef, Value.cells, axL]; rfl) rfl ?_
      | (with_reducible first | refine end_reg (Ev.mono _ _) ?_ | refine end_dreg (Ev.mono _ _) ?_ | refine end_cond (Ev.mono _ _) ?_ | refine end_block (Ev.mono _ _) ?_ | refine end_loop (Ev.mono _ _) ?_))
      repeat' (with_reducible first | refine go_assoc ?_ (Ev.mono _ _) | refine go_skip ?_ | refine go_block ?_ | refine end_reg (Ev.mono _ _) ?_)
      refine go_callN 1 _ (by simp only [Ax.runN, Ax.runK, Ax.runOps, Ax.run1, Ax.wantA, Ax.step, Ax.ev, Ax.evs, Ax.evo, Ax.evp, Ax.look, Ax.putE, Ax.keepE, Ax.argsE, Ax.extr, Ax.binV, Ax.intBin, Ax.unV, Ax.addOff, Ax.sizeN, Ax.mkV, Ax.okV, reduceIte, Nat.reduceEqDiff, Nat.reduceAdd, Nat.reduceLeDiff, Nat.reduceLT, Nat.reduceSub, Nat.reduceMul, reduceCtorEq, Int.reduceEq, Int.reduceLT, Int.reduceLE, Int.reduceAdd, Int.reduceSub, Int.reduceNeg, Int.reduceToNat, undef, Value.cells, axL]; rfl) rfl rfl (by simp only [Ax.wantA, Ax.look, reduceIte, Nat.reduceEqDiff, bq_t, bq_f, Bool.not_true, Bool.not_false]; try rfl) rfl (by simp only [Ax.runK, Ax.runOps, Ax.run1, Ax.wantA, Ax.step, Ax.ev, Ax.evs, Ax.evo, Ax.evp, Ax.look, Ax.putE, Ax.keepE, Ax.argsE, Ax.extr, Ax.binV, Ax.intBin, Ax.unV, Ax.addOff, Ax.sizeN, Ax.mkV, Ax.okV, reduceIte, Nat.reduceEqDiff, Nat.reduceAdd, Nat.reduceLeDiff, Nat.reduceLT, Nat.reduceSub, Nat.reduceMul, reduceCtorEq, Int.reduceEq, Int.reduceLT, Int.reduceLE, Int.reduceAdd, Int.reduceSub, Int.reduceNeg, Int.reduceToNat, undef, Value.cells, axL]; try rfl) ?_
      refine pop_spec XL H2 (by simp) (fun _ => ?_) (fun a t S4 hat H4 => by cases hat)
      repeat' (first
      | (with_reducible first | refine go_assoc ?_ (Ev.mono _ _) | refine go_skip ?_ | refine go_fin ?_ | refine go_ret ?_ | refine go_ret0 ?_ | refine go_exit ?_ | refine go_exit0 ?_ | refine go_block ?_ | refine n_then ?_ | refine x_then ?_ | refine r_then ?_ | refine n_block ?_ | refine r_block ?_ | refine x_block ?_ | refine x_block_ne ?_ (by decide))
      | (with_reducible refine is_k ?_; refine go_k _ (by simp only [Ax.runK, Ax.runOps, Ax.run1, Ax.wantA, Ax.step, Ax.ev, Ax.evs, Ax.evo, Ax.evp, Ax.look, Ax.putE, Ax.keepE, Ax.argsE, Ax.extr, Ax.binV, Ax.intBin, Ax.unV, Ax.addOff, Ax.sizeN, Ax.mkV, Ax.okV, reduceIte, Nat.reduceEqDiff, Nat.reduceAdd, Nat.reduceLeDiff, Nat.reduceLT, Nat.reduceSub, Nat.reduceMul, reduceCtorEq, Int.reduceEq, Int.reduceLT, Int.reduceLE, Int.reduceAdd, Int.reduceSub, Int.reduceNeg, Int.reduceToNat, undef, Value.cells, axL]; rfl) rfl ?_)
      | (with_reducible refine cond_t ?_ ?_; · simp only [Ax.ev, Ax.look, reduceIte, Nat.reduceEqDiff])
      | (with_reducible refine cond_f ?_ ?_; · simp only [Ax.ev, Ax.look, reduceIte, Nat.reduceEqDiff])
      | (with_reducible refine is_rp ?_; first | refine r_postR rfl ?_ | refine r_postR (by simp only [Ax.result, Ax.resVs, Ax.resV, R3, Ax.look, sizeN, mkV, Nat.reduceEqDiff, reduceIte, axL]; rfl) ?_)
      | (with_reducible refine is_np ?_; first | refine n_postR rfl ?_ | refine n_postR (by simp only [Ax.result, Ax.resVs, Ax.resV, R3, Ax.look, sizeN, mkV, Nat.reduceEqDiff, reduceIte, axL]; rfl) ?_)
      | (first | with_reducible refine is_wd ?_ | with_reducible refine dk_wd ?_); refine go_dt _ (by simp only [Ax.runDK, Ax.runDT, Ax.runDops, Ax.run1d, Ax.recs, Ax.okPair, Ax.idsE, Ax.idsV, AOp.mems, AOp.isWrite, DRec.none, axD, Ax.runK, Ax.runOps, Ax.run1, Ax.wantA, Ax.step, Ax.ev, Ax.evs, Ax.evo, Ax.evp, Ax.look, Ax.putE, Ax.keepE, Ax.argsE, Ax.extr, Ax.binV, Ax.intBin, Ax.unV, Ax.addOff, Ax.sizeN, Ax.mkV, Ax.okV, reduceIte, Nat.reduceEqDiff, Nat.reduceAdd, Nat.reduceLeDiff, Nat.reduceLT, Nat.reduceSub, Nat.reduceMul, reduceCtorEq, Int.reduceEq, Int.reduceLT, Int.reduceLE, Int.reduceAdd, Int.reduceSub, Int.reduceNeg, Int.reduceToNat, undef, Value.cells, axL]; rfl) rfl ?_
      | (with_reducible first | refine end_reg (Ev.mono _ _) ?_ | refine end_dreg (Ev.mono _ _) ?_ | refine end_cond (Ev.mono _ _) ?_ | refine end_block (Ev.mono _ _) ?_ | refine end_loop (Ev.mono _ _) ?_))
      repeat' (with_reducible first | refine go_assoc ?_ (Ev.mono _ _) | refine go_skip ?_ | refine go_block ?_ | refine end_reg (Ev.mono _ _) ?_)
      refine go_callN 3 _ (by simp only [Ax.runN, Ax.runK, Ax.runOps, Ax.run1, Ax.wantA, Ax.step, Ax.ev, Ax.evs, Ax.evo, Ax.evp, Ax.look, Ax.putE, Ax.keepE, Ax.argsE, Ax.extr, Ax.binV, Ax.intBin, Ax.unV, Ax.addOff, Ax.sizeN, Ax.mkV, Ax.okV, reduceIte, Nat.reduceEqDiff, Nat.reduceAdd, Nat.reduceLeDiff, Nat.reduceLT, Nat.reduceSub, Nat.reduceMul, reduceCtorEq, Int.reduceEq, Int.reduceLT, Int.reduceLE, Int.reduceAdd, Int.reduceSub, Int.reduceNeg, Int.reduceToNat, undef, Value.cells, axL]; rfl) rfl rfl (by simp only [Ax.wantA, Ax.look, reduceIte, Nat.reduceEqDiff, bq_t, bq_f, Bool.not_true, Bool.not_false]; try rfl) rfl (by simp only [Ax.runK, Ax.runOps, Ax.run1, Ax.wantA, Ax.step, Ax.ev, Ax.evs, Ax.evo, Ax.evp, Ax.look, Ax.putE, Ax.keepE, Ax.argsE, Ax.extr, Ax.binV, Ax.intBin, Ax.unV, Ax.addOff, Ax.sizeN, Ax.mkV, Ax.okV, reduceIte, Nat.reduceEqDiff, Nat.reduceAdd, Nat.reduceLeDiff, Nat.reduceLT, Nat.reduceSub, Nat.reduceMul, reduceCtorEq, Int.reduceEq, Int.reduceLT, Int.reduceLE, Int.reduceAdd, Int.reduceSub, Int.reduceNeg, Int.reduceToNat, undef, Value.cells, axL]; try rfl) ?_
      refine Ev.known G_live X_live ?_
      repeat' (first
      | (with_reducible first | refine go_assoc ?_ (Ev.mono _ _) | refine go_skip ?_ | refine go_fin ?_ | refine go_ret ?_ | refine go_ret0 ?_ | refine go_exit ?_ | refine go_exit0 ?_ | refine go_block ?_ | refine n_then ?_ | refine x_then ?_ | refine r_then ?_ | refine n_block ?_ | refine r_block ?_ | refine x_block ?_ | refine x_block_ne ?_ (by decide))
      | (with_reducible refine is_k ?_; refine go_k _ (by simp only [Ax.runK, Ax.runOps, Ax.run1, Ax.wantA, Ax.step, Ax.ev, Ax.evs, Ax.evo, Ax.evp, Ax.look, Ax.putE, Ax.keepE, Ax.argsE, Ax.extr, Ax.binV, Ax.intBin, Ax.unV, Ax.addOff, Ax.sizeN, Ax.mkV, Ax.okV, reduceIte, Nat.reduceEqDiff, Nat.reduceAdd, Nat.reduceLeDiff, Nat.reduceLT, Nat.reduceSub, Nat.reduceMul, reduceCtorEq, Int.reduceEq, Int.reduceLT, Int.reduceLE, Int.reduceAdd, Int.reduceSub, Int.reduceNeg, Int.reduceToNat, undef, Value.cells, axL]; rfl) rfl ?_)
      | (with_reducible refine cond_t ?_ ?_; · simp only [Ax.ev, Ax.look, reduceIte, Nat.reduceEqDiff])
      | (with_reducible refine cond_f ?_ ?_; · simp only [Ax.ev, Ax.look, reduceIte, Nat.reduceEqDiff])
      | (with_reducible refine is_rp ?_; first | refine r_postR rfl ?_ | refine r_postR (by simp only [Ax.result, Ax.resVs, Ax.resV, R3, Ax.look, sizeN, mkV, Nat.reduceEqDiff, reduceIte, axL]; rfl) ?_)
      | (with_reducible refine is_np ?_; first | refine n_postR rfl ?_ | refine n_postR (by simp only [Ax.result, Ax.resVs, Ax.resV, R3, Ax.look, sizeN, mkV, Nat.reduceEqDiff, reduceIte, axL]; rfl) ?_)
      | (first | with_reducible refine is_wd ?_ | with_reducible refine dk_wd ?_); refine go_dt _ (by simp only [Ax.runDK, Ax.runDT, Ax.runDops, Ax.run1d, Ax.recs, Ax.okPair, Ax.idsE, Ax.idsV, AOp.mems, AOp.isWrite, DRec.none, axD, Ax.runK, Ax.runOps, Ax.run1, Ax.wantA, Ax.step, Ax.ev, Ax.evs, Ax.evo, Ax.evp, Ax.look, Ax.putE, Ax.keepE, Ax.argsE, Ax.extr, Ax.binV, Ax.intBin, Ax.unV, Ax.addOff, Ax.sizeN, Ax.mkV, Ax.okV, reduceIte, Nat.reduceEqDiff, Nat.reduceAdd, Nat.reduceLeDiff, Nat.reduceLT, Nat.reduceSub, Nat.reduceMul, reduceCtorEq, Int.reduceEq, Int.reduceLT, Int.reduceLE, Int.reduceAdd, Int.reduceSub, Int.reduceNeg, Int.reduceToNat, undef, Value.cells, axL]; rfl) rfl ?_
      | (with_reducible first | refine end_reg (Ev.mono _ _) ?_ | refine end_dreg (Ev.mono _ _) ?_ | refine end_cond (Ev.mono _ _) ?_ | refine end_block (Ev.mono _ _) ?_ | refine end_loop (Ev.mono _ _) ?_))
      rfl

end Go.Proofs.Ytboclpaokecalaa

