/- Part 2 of Split. -/
import Derived.Test.YtboclpaokecalaaSplit1
set_option linter.unusedVariables false
set_option linter.unusedSimpArgs false
set_option linter.unnecessarySimpa false
/- Law 06: HeapSorts. -/
namespace Go.Proofs.Ytboclpaokecalaa
open Go.Ax
open Go.Ax.Enc (enc)

/-- Things with these times: each with its place as number and as itself. -/
def itemOf (l : List Int) (j : Nat) : It := ⟨l.getD j 0, j, j⟩

/-- A row that holds just the first n. -/
structure Put (l : List Int) (n : Nat) (s : List It) : Prop where
  perm : s.Perm ((List.range n).map (itemOf l))
  sorted : Sorted s

theorem Put.mem {l : List Int} {n : Nat} {s : List It} (h : Put l n s) {y : It} (hy : y ∈ s) : ∃ j, j < n ∧ y = itemOf l j := by
  have := h.perm.mem_iff.1 hy
  obtain ⟨j, hj, rfl⟩ := List.mem_map.1 this
  exact ⟨j, List.mem_range.1 hj, rfl⟩

theorem Put.x {l : List Int} {n : Nat} {s : List It} (h : Put l n s) (x : Int) : x ∈ s.map (·.x) ↔ ∃ j : Nat, j < n ∧ x = j := by
  constructor
  · intro hx
    obtain ⟨y, hy, rfl⟩ := List.mem_map.1 hx
    obtain ⟨j, hj, rfl⟩ := h.mem hy
    exact ⟨j, hj, rfl⟩
  · rintro ⟨j, hj, rfl⟩
    refine List.mem_map.2 ⟨itemOf l j, h.perm.mem_iff.2 (List.mem_map.2 ⟨j, List.mem_range.2 hj, rfl⟩), rfl⟩

theorem Put.len {l : List Int} {n : Nat} {s : List It} (h : Put l n s) : s.length = n := by
  have := h.perm.length_eq
  simpa using this

theorem Put.step {l : List Int} {n : Nat} {s : List It} (h : Put l n s) (w : Int) (hw : w = l.getD n 0) : Put l (n + 1) (insS ⟨w, n, n⟩ s) := by
  subst hw
  refine ⟨?_, insS_sorted h.sorted (fun y hy => ?_)⟩
  · refine (insS_perm _ s).trans ?_
    rw [List.range_succ, List.map_append]
    refine ((h.perm.cons _).trans ?_)
    exact (List.perm_append_singleton _ _).symm
  · obtain ⟨j, hj, rfl⟩ := h.mem hy
    simp only [itemOf]; omega

theorem HeapA.empty {R : Nat → Option (List Value)} {F : List Asn} {S : AS} {hd : Nat} (H : St R (pts hd [.slice none 0 0, .map none, .int .i64 0] :: F) S) : St R (HeapA hd [] 0 :: F) S := by
  refine HeapA.close (lv := .slice none 0 0) (av := .map none) (l := []) (m := []) ?_ ⟨.refl _, fun j hj => by simp at hj, ⟨fun j hj => by simp at hj, fun y k h => by simp at h, by simp⟩, by simp [Sorted]⟩
  have h1 := SlT.nil (α := It) H
  obtain ⟨h2, h3⟩ := h1
  have h4 : St R (AtA (.map none) [] :: SlT (.slice none 0 0) ([] : List It) :: pts hd [.slice none 0 0, .map none, .int .i64 0] :: F) S := ⟨⟨fun _ => false, .inl ⟨rfl, rfl⟩, h2.sub fun i o ho => ho⟩, h3⟩
  exact h4.pick 3 [2, 1, 0] rfl

theorem heapSorts_law {R : Nat → Option (List Value)} {v : Value} {times : List Int} (hv : RIn R v times) : Law G XL 3 [v] R := by
  intro F S H
  refine Ev.fnR (rs := R3) (c := A3) rfl ?_
  unfold A3
  obtain ⟨l, hl⟩ : ∃ l, l = times.take 200 := ⟨_, rfl⟩
  obtain ⟨v', e1, hv'⟩ := hv.slice H (lo := 0) (hi := l.length) (Nat.zero_le _) (by rw [hl]; simp; omega) none (some (.int .i64 l.length)) (.inl ⟨rfl, rfl⟩) (.inr ⟨_, rfl⟩)
  have hl' : times.take l.length = l := by rw [hl]; simp [List.take_take]
  rw [List.drop_zero, Nat.sub_zero, hl'] at hv'
  have hmin : minV (.int .i64 times.length) (.int .i64 200) = some (.int .i64 l.length) := by
    simp only [minV, hl, List.length_take]
    congr 2
    split <;> omega
  have hl200 : l.length ≤ 200 := by rw [hl]; simp; omega
  clear hl hl'
  have hvl := hv.len H
  have hvl' := hv'.len H
  repeat' (first
      | (with_reducible first | refine go_assoc ?_ (Ev.mono _ _) | refine go_skip ?_ | refine go_fin ?_ | refine go_ret ?_ | refine go_ret0 ?_ | refine go_exit ?_ | refine go_exit0 ?_ | refine go_block ?_ | refine n_then ?_ | refine x_then ?_ | refine r_then ?_ | refine n_block ?_ | refine r_block ?_ | refine x_block ?_ | refine x_block_ne ?_ (by decide))
      | (with_reducible refine is_k ?_; refine go_k _ (by simp only [Ax.runK, Ax.runOps, Ax.run1, Ax.wantA, Ax.step, Ax.ev, Ax.evs, Ax.evo, Ax.evp, Ax.look, Ax.putE, Ax.keepE, Ax.argsE, Ax.extr, Ax.binV, Ax.intBin, Ax.unV, Ax.addOff, Ax.sizeN, Ax.mkV, Ax.okV, reduceIte, Nat.reduceEqDiff, Nat.reduceAdd, Nat.reduceLeDiff, Nat.reduceLT, Nat.reduceSub, Nat.reduceMul, reduceCtorEq, Int.reduceEq, Int.reduceLT, Int.reduceLE, Int.reduceAdd, Int.reduceSub, Int.reduceNeg, Int.reduceToNat, undef, Value.cells, axL, hvl, hmin, e1, hvl']; rfl) rfl ?_)
      | (with_reducible refine cond_t ?_ ?_; · simp only [Ax.ev, Ax.look, reduceIte, Nat.reduceEqDiff])
      | (with_reducible refine cond_f ?_ ?_; · simp only [Ax.ev, Ax.look, reduceIte, Nat.reduceEqDiff])
      | (with_reducible refine is_rp ?_; first | refine r_postR rfl ?_ | refine r_postR (by simp only [Ax.result, Ax.resVs, Ax.resV, R3, Ax.look, sizeN, mkV, Nat.reduceEqDiff, reduceIte, axL, hvl, hmin, e1, hvl']; rfl) ?_)
      | (with_reducible refine is_np ?_; first | refine n_postR rfl ?_ | refine n_postR (by simp only [Ax.result, Ax.resVs, Ax.resV, R3, Ax.look, sizeN, mkV, Nat.reduceEqDiff, reduceIte, axL, hvl, hmin, e1, hvl']; rfl) ?_)
      | (first | with_reducible refine is_wd ?_ | with_reducible refine dk_wd ?_); refine go_dt _ (by simp only [Ax.runDK, Ax.runDT, Ax.runDops, Ax.run1d, Ax.recs, Ax.okPair, Ax.idsE, Ax.idsV, AOp.mems, AOp.isWrite, DRec.none, axD, Ax.runK, Ax.runOps, Ax.run1, Ax.wantA, Ax.step, Ax.ev, Ax.evs, Ax.evo, Ax.evp, Ax.look, Ax.putE, Ax.keepE, Ax.argsE, Ax.extr, Ax.binV, Ax.intBin, Ax.unV, Ax.addOff, Ax.sizeN, Ax.mkV, Ax.okV, reduceIte, Nat.reduceEqDiff, Nat.reduceAdd, Nat.reduceLeDiff, Nat.reduceLT, Nat.reduceSub, Nat.reduceMul, reduceCtorEq, Int.reduceEq, Int.reduceLT, Int.reduceLE, Int.reduceAdd, Int.reduceSub, Int.reduceNeg, Int.reduceToNat, undef, Value.cells, axL, hvl, hmin, e1, hvl']; rfl) rfl ?_
      | (with_reducible first | refine end_reg (Ev.mono _ _) ?_ | refine end_dreg (Ev.mono _ _) ?_ | refine end_cond (Ev.mono _ _) ?_ | refine end_block (Ev.mono _ _) ?_ | refine end_loop (Ev.mono _ _) ?_))
  have H1 := HeapA.empty (H.newc [.slice none 0 0, .map none, .int .i64 0])
  generalize S.nx = hd at H1
  generalize S.new (.cells false [.slice none 0 0, .map none, .int .i64 0]) = S1 at H1
  refine go_loop (Ev.mono _ _) (fun (k : Nat) ρ S' => k ≤ l.length ∧ ρ = [(24, .int .i64 k), (3, .pointer (some ⟨hd, 0, none⟩)), (22, v'), (0, v'), (23, .int .i64 l.length)] ∧ ∃ s, Put l k s ∧ St R (HeapA hd s k :: F) S') (fun k => l.length - k) 0 ⟨Nat.zero_le _, rfl, [], ⟨by simp, by simp [Sorted]⟩, H1⟩ ?_
  rintro k ρ S2 ⟨hk, rfl, s, hs, H2⟩
  have wk : IntKind.wrap .i64 ((k : Int) + 1) = ((k + 1 : Nat) : Int) := wrapI (n := (k : Int) + 1) (by unfold I64; omega)
  repeat' (first
      | (with_reducible first | refine go_assoc ?_ (Ev.mono _ _) | refine go_skip ?_ | refine go_fin ?_ | refine go_ret ?_ | refine go_ret0 ?_ | refine go_exit ?_ | refine go_exit0 ?_ | refine go_block ?_ | refine n_then ?_ | refine x_then ?_ | refine r_then ?_ | refine n_block ?_ | refine r_block ?_ | refine x_block ?_ | refine x_block_ne ?_ (by decide))
      | (with_reducible refine is_k ?_; refine go_k _ (by simp only [Ax.runK, Ax.runOps, Ax.run1, Ax.wantA, Ax.step, Ax.ev, Ax.evs, Ax.evo, Ax.evp, Ax.look, Ax.putE, Ax.keepE, Ax.argsE, Ax.extr, Ax.binV, Ax.intBin, Ax.unV, Ax.addOff, Ax.sizeN, Ax.mkV, Ax.okV, reduceIte, Nat.reduceEqDiff, Nat.reduceAdd, Nat.reduceLeDiff, Nat.reduceLT, Nat.reduceSub, Nat.reduceMul, reduceCtorEq, Int.reduceEq, Int.reduceLT, Int.reduceLE, Int.reduceAdd, Int.reduceSub, Int.reduceNeg, Int.reduceToNat, undef, Value.cells, axL]; rfl) rfl ?_)
      | (with_reducible refine cond_t ?_ ?_; · simp only [Ax.ev, Ax.look, reduceIte, Nat.reduceEqDiff])
      | (with_reducible refine cond_f ?_ ?_; · simp only [Ax.ev, Ax.look, reduceIte, Nat.reduceEqDiff])
      | (with_reducible refine is_rp ?_; first | refine r_postR rfl ?_ | refine r_postR (by simp only [Ax.result, Ax.resVs, Ax.resV, R3, Ax.look, sizeN, mkV, Nat.reduceEqDiff, reduceIte, axL]; rfl) ?_)
      | (with_reducible refine is_np ?_; first | refine n_postR rfl ?_ | refine n_postR (by simp only [Ax.result, Ax.resVs, Ax.resV, R3, Ax.look, sizeN, mkV, Nat.reduceEqDiff, reduceIte, axL]; rfl) ?_)
      | (first | with_reducible refine is_wd ?_ | with_reducible refine dk_wd ?_); refine go_dt _ (by simp only [Ax.runDK, Ax.runDT, Ax.runDops, Ax.run1d, Ax.recs, Ax.okPair, Ax.idsE, Ax.idsV, AOp.mems, AOp.isWrite, DRec.none, axD, Ax.runK, Ax.runOps, Ax.run1, Ax.wantA, Ax.step, Ax.ev, Ax.evs, Ax.evo, Ax.evp, Ax.look, Ax.putE, Ax.keepE, Ax.argsE, Ax.extr, Ax.binV, Ax.intBin, Ax.unV, Ax.addOff, Ax.sizeN, Ax.mkV, Ax.okV, reduceIte, Nat.reduceEqDiff, Nat.reduceAdd, Nat.reduceLeDiff, Nat.reduceLT, Nat.reduceSub, Nat.reduceMul, reduceCtorEq, Int.reduceEq, Int.reduceLT, Int.reduceLE, Int.reduceAdd, Int.reduceSub, Int.reduceNeg, Int.reduceToNat, undef, Value.cells, axL]; rfl) rfl ?_
      | (with_reducible first | refine end_reg (Ev.mono _ _) ?_ | refine end_dreg (Ev.mono _ _) ?_ | refine end_cond (Ev.mono _ _) ?_ | refine end_block (Ev.mono _ _) ?_ | refine end_loop (Ev.mono _ _) ?_))
  refine cond_d rfl (fun hlt => ?_) (fun hlt => ?_)
  · have hkl : k < l.length := by omega
    obtain ⟨b, a, f1, f2, f3, f4⟩ := RdT.at (hv'.rd H2) hkl .i64
    repeat' (first
      | (with_reducible first | refine go_assoc ?_ (Ev.mono _ _) | refine go_skip ?_ | refine go_fin ?_ | refine go_ret ?_ | refine go_ret0 ?_ | refine go_exit ?_ | refine go_exit0 ?_ | refine go_block ?_ | refine n_then ?_ | refine x_then ?_ | refine r_then ?_ | refine n_block ?_ | refine r_block ?_ | refine x_block ?_ | refine x_block_ne ?_ (by decide))
      | (with_reducible refine is_k ?_; refine go_k _ (by simp only [Ax.runK, Ax.runOps, Ax.run1, Ax.wantA, Ax.step, Ax.ev, Ax.evs, Ax.evo, Ax.evp, Ax.look, Ax.putE, Ax.keepE, Ax.argsE, Ax.extr, Ax.binV, Ax.intBin, Ax.unV, Ax.addOff, Ax.sizeN, Ax.mkV, Ax.okV, reduceIte, Nat.reduceEqDiff, Nat.reduceAdd, Nat.reduceLeDiff, Nat.reduceLT, Nat.reduceSub, Nat.reduceMul, reduceCtorEq, Int.reduceEq, Int.reduceLT, Int.reduceLE, Int.reduceAdd, Int.reduceSub, Int.reduceNeg, Int.reduceToNat, undef, Value.cells, axL, f1, f3]; rfl) rfl ?_)
      | (with_reducible refine cond_t ?_ ?_; · simp only [Ax.ev, Ax.look, reduceIte, Nat.reduceEqDiff])
      | (with_reducible refine cond_f ?_ ?_; · simp only [Ax.ev, Ax.look, reduceIte, Nat.reduceEqDiff])
      | (with_reducible refine is_rp ?_; first | refine r_postR rfl ?_ | refine r_postR (by simp only [Ax.result, Ax.resVs, Ax.resV, R3, Ax.look, sizeN, mkV, Nat.reduceEqDiff, reduceIte, axL, f1, f3]; rfl) ?_)
      | (with_reducible refine is_np ?_; first | refine n_postR rfl ?_ | refine n_postR (by simp only [Ax.result, Ax.resVs, Ax.resV, R3, Ax.look, sizeN, mkV, Nat.reduceEqDiff, reduceIte, axL, f1, f3]; rfl) ?_)
      | (first | with_reducible refine is_wd ?_ | with_reducible refine dk_wd ?_); refine go_dt _ (by simp only [Ax.runDK, Ax.runDT, Ax.runDops, Ax.run1d, Ax.recs, Ax.okPair, Ax.idsE, Ax.idsV, AOp.mems, AOp.isWrite, DRec.none, axD, Ax.runK, Ax.runOps, Ax.run1, Ax.wantA, Ax.step, Ax.ev, Ax.evs, Ax.evo, Ax.evp, Ax.look, Ax.putE, Ax.keepE, Ax.argsE, Ax.extr, Ax.binV, Ax.intBin, Ax.unV, Ax.addOff, Ax.sizeN, Ax.mkV, Ax.okV, reduceIte, Nat.reduceEqDiff, Nat.reduceAdd, Nat.reduceLeDiff, Nat.reduceLT, Nat.reduceSub, Nat.reduceMul, reduceCtorEq, Int.reduceEq, Int.reduceLT, Int.reduceLE, Int.reduceAdd, Int.reduceSub, Int.reduceNeg, Int.reduceToNat, undef, Value.cells, axL, f1, f3]; rfl) rfl ?_
      | (with_reducible first | refine end_reg (Ev.mono _ _) ?_ | refine end_dreg (Ev.mono _ _) ?_ | refine end_cond (Ev.mono _ _) ?_ | refine end_block (Ev.mono _ _) ?_ | refine end_loop (Ev.mono _ _) ?_))
    repeat' (with_reducible first | refine go_assoc ?_ (Ev.mono _ _) | refine go_skip ?_ | refine go_block ?_ | refine end_reg (Ev.mono _ _) ?_)
    refine go_callN 3 _ (by simp only [Ax.runN, Ax.runK, Ax.runOps, Ax.run1, Ax.wantA, Ax.step, Ax.ev, Ax.evs, Ax.evo, Ax.evp, Ax.look, Ax.putE, Ax.keepE, Ax.argsE, Ax.extr, Ax.binV, Ax.intBin, Ax.unV, Ax.addOff, Ax.sizeN, Ax.mkV, Ax.okV, reduceIte, Nat.reduceEqDiff, Nat.reduceAdd, Nat.reduceLeDiff, Nat.reduceLT, Nat.reduceSub, Nat.reduceMul, reduceCtorEq, Int.reduceEq, Int.reduceLT, Int.reduceLE, Int.reduceAdd, Int.reduceSub, Int.reduceNeg, Int.reduceToNat, undef, Value.cells, axL]; rfl) rfl rfl (by simp only [Ax.wantA, Ax.look, reduceIte, Nat.reduceEqDiff, bq_t, bq_f, Bool.not_true, Bool.not_false]; try rfl) rfl (by simp only [Ax.runK, Ax.runOps, Ax.run1, Ax.wantA, Ax.step, Ax.ev, Ax.evs, Ax.evo, Ax.evp, Ax.look, Ax.putE, Ax.keepE, Ax.argsE, Ax.extr, Ax.binV, Ax.intBin, Ax.unV, Ax.addOff, Ax.sizeN, Ax.mkV, Ax.okV, reduceIte, Nat.reduceEqDiff, Nat.reduceAdd, Nat.reduceLeDiff, Nat.reduceLT, Nat.reduceSub, Nat.reduceMul, reduceCtorEq, Int.reduceEq, Int.reduceLT, Int.reduceLE, Int.reduceAdd, Int.reduceSub, Int.reduceNeg, Int.reduceToNat, undef, Value.cells, axL]; try rfl) ?_
    refine put_spec XL H2 (by have := hs.len; omega) (fun y hy => ?_) (by unfold I64; omega) l[k] k (fun hm => ?_) (fun hm S3 H3 => ?_)
    · obtain ⟨j, hj, rfl⟩ := hs.mem hy
      simp only [itemOf]; omega
    · exfalso
      obtain ⟨j, hj, e⟩ := (hs.x k).1 hm
      omega
    · have hs3 := hs.step l[k] (by simp [hkl])
      repeat' (with_reducible first | refine go_assoc ?_ (Ev.mono _ _) | refine go_skip ?_ | refine go_block ?_ | refine end_reg (Ev.mono _ _) ?_)
      refine go_callN 5 _ (by simp only [Ax.runN, Ax.runK, Ax.runOps, Ax.run1, Ax.wantA, Ax.step, Ax.ev, Ax.evs, Ax.evo, Ax.evp, Ax.look, Ax.putE, Ax.keepE, Ax.argsE, Ax.extr, Ax.binV, Ax.intBin, Ax.unV, Ax.addOff, Ax.sizeN, Ax.mkV, Ax.okV, reduceIte, Nat.reduceEqDiff, Nat.reduceAdd, Nat.reduceLeDiff, Nat.reduceLT, Nat.reduceSub, Nat.reduceMul, reduceCtorEq, Int.reduceEq, Int.reduceLT, Int.reduceLE, Int.reduceAdd, Int.reduceSub, Int.reduceNeg, Int.reduceToNat, undef, Value.cells, axL]; rfl) rfl rfl (by simp only [Ax.wantA, Ax.look, reduceIte, Nat.reduceEqDiff, bq_t, bq_f, Bool.not_true, Bool.not_false]; try rfl) rfl (by simp only [Ax.runK, Ax.runOps, Ax.run1, Ax.wantA, Ax.step, Ax.ev, Ax.evs, Ax.evo, Ax.evp, Ax.look, Ax.putE, Ax.keepE, Ax.argsE, Ax.extr, Ax.binV, Ax.intBin, Ax.unV, Ax.addOff, Ax.sizeN, Ax.mkV, Ax.okV, reduceIte, Nat.reduceEqDiff, Nat.reduceAdd, Nat.reduceLeDiff, Nat.reduceLT, Nat.reduceSub, Nat.reduceMul, reduceCtorEq, Int.reduceEq, Int.reduceLT, Int.reduceLE, Int.reduceAdd, Int.reduceSub, Int.reduceNeg, Int.reduceToNat, undef, Value.cells, axL]; try rfl) ?_
      refine put_spec XL H3 (by have := hs3.len; omega) (fun y hy => ?_) (by unfold I64; omega) l[k] k (fun hm => ?_) (fun hm S4 H4 => ?_)
      · obtain ⟨j, hj, rfl⟩ := hs3.mem hy
        simp only [itemOf]; omega
      · repeat' (first
      | (with_reducible first | refine go_assoc ?_ (Ev.mono _ _) | refine go_skip ?_ | refine go_fin ?_ | refine go_ret ?_ | refine go_ret0 ?_ | refine go_exit ?_ | refine go_exit0 ?_ | refine go_block ?_ | refine n_then ?_ | refine x_then ?_ | refine r_then ?_ | refine n_block ?_ | refine r_block ?_ | refine x_block ?_ | refine x_block_ne ?_ (by decide))
      | (with_reducible refine is_k ?_; refine go_k _ (by simp only [Ax.runK, Ax.runOps, Ax.run1, Ax.wantA, Ax.step, Ax.ev, Ax.evs, Ax.evo, Ax.evp, Ax.look, Ax.putE, Ax.keepE, Ax.argsE, Ax.extr, Ax.binV, Ax.intBin, Ax.unV, Ax.addOff, Ax.sizeN, Ax.mkV, Ax.okV, reduceIte, Nat.reduceEqDiff, Nat.reduceAdd, Nat.reduceLeDiff, Nat.reduceLT, Nat.reduceSub, Nat.reduceMul, reduceCtorEq, Int.reduceEq, Int.reduceLT, Int.reduceLE, Int.reduceAdd, Int.reduceSub, Int.reduceNeg, Int.reduceToNat, undef, Value.cells, axL, wk]; rfl) rfl ?_)
      | (with_reducible refine cond_t ?_ ?_; · simp only [Ax.ev, Ax.look, reduceIte, Nat.reduceEqDiff])
      | (with_reducible refine cond_f ?_ ?_; · simp only [Ax.ev, Ax.look, reduceIte, Nat.reduceEqDiff])
      | (with_reducible refine is_rp ?_; first | refine r_postR rfl ?_ | refine r_postR (by simp only [Ax.result, Ax.resVs, Ax.resV, R3, Ax.look, sizeN, mkV, Nat.reduceEqDiff, reduceIte, axL, wk]; rfl) ?_)
      | (with_reducible refine is_np ?_; first | refine n_postR rfl ?_ | refine n_postR (by simp only [Ax.result, Ax.resVs, Ax.resV, R3, Ax.look, sizeN, mkV, Nat.reduceEqDiff, reduceIte, axL, wk]; rfl) ?_)
      | (first | with_reducible refine is_wd ?_ | with_reducible refine dk_wd ?_); refine go_dt _ (by simp only [Ax.runDK, Ax.runDT, Ax.runDops, Ax.run1d, Ax.recs, Ax.okPair, Ax.idsE, Ax.idsV, AOp.mems, AOp.isWrite, DRec.none, axD, Ax.runK, Ax.runOps, Ax.run1, Ax.wantA, Ax.step, Ax.ev, Ax.evs, Ax.evo, Ax.evp, Ax.look, Ax.putE, Ax.keepE, Ax.argsE, Ax.extr, Ax.binV, Ax.intBin, Ax.unV, Ax.addOff, Ax.sizeN, Ax.mkV, Ax.okV, reduceIte, Nat.reduceEqDiff, Nat.reduceAdd, Nat.reduceLeDiff, Nat.reduceLT, Nat.reduceSub, Nat.reduceMul, reduceCtorEq, Int.reduceEq, Int.reduceLT, Int.reduceLE, Int.reduceAdd, Int.reduceSub, Int.reduceNeg, Int.reduceToNat, undef, Value.cells, axL, wk]; rfl) rfl ?_
      | (with_reducible first | refine end_reg (Ev.mono _ _) ?_ | refine end_dreg (Ev.mono _ _) ?_ | refine end_cond (Ev.mono _ _) ?_ | refine end_block (Ev.mono _ _) ?_ | refine end_loop (Ev.mono _ _) ?_))
        exact ⟨k + 1, by omega, hkl, rfl, _, hs3, H3⟩
      · exfalso
        exact hm ((hs3.x k).2 ⟨k, by omega, rfl⟩)
  · have hkn : k = l.length := by omega
    subst hkn
    repeat' (first
      | (with_reducible first | refine go_assoc ?_ (Ev.mono _ _) | refine go_skip ?_ | refine go_fin ?_ | refine go_ret ?_ | refine go_ret0 ?_ | refine go_exit ?_ | refine go_exit0 ?_ | refine go_block ?_ | refine n_then ?_ | refine x_then ?_ | refine r_then ?_ | refine n_block ?_ | refine r_block ?_ | refine x_block ?_ | refine x_block_ne ?_ (by decide))
      | (with_reducible refine is_k ?_; refine go_k _ (by simp only [Ax.runK, Ax.runOps, Ax.run1, Ax.wantA, Ax.step, Ax.ev, Ax.evs, Ax.evo, Ax.evp, Ax.look, Ax.putE, Ax.keepE, Ax.argsE, Ax.extr, Ax.binV, Ax.intBin, Ax.unV, Ax.addOff, Ax.sizeN, Ax.mkV, Ax.okV, reduceIte, Nat.reduceEqDiff, Nat.reduceAdd, Nat.reduceLeDiff, Nat.reduceLT, Nat.reduceSub, Nat.reduceMul, reduceCtorEq, Int.reduceEq, Int.reduceLT, Int.reduceLE, Int.reduceAdd, Int.reduceSub, Int.reduceNeg, Int.reduceToNat, undef, Value.cells, axL, hvl']; rfl) rfl ?_)
      | (with_reducible refine cond_t ?_ ?_; · simp only [Ax.ev, Ax.look, reduceIte, Nat.reduceEqDiff])
      | (with_reducible refine cond_f ?_ ?_; · simp only [Ax.ev, Ax.look, reduceIte, Nat.reduceEqDiff])
      | (with_reducible refine is_rp ?_; first | refine r_postR rfl ?_ | refine r_postR (by simp only [Ax.result, Ax.resVs, Ax.resV, R3, Ax.look, sizeN, mkV, Nat.reduceEqDiff, reduceIte, axL, hvl']; rfl) ?_)
      | (with_reducible refine is_np ?_; first | refine n_postR rfl ?_ | refine n_postR (by simp only [Ax.result, Ax.resVs, Ax.resV, R3, Ax.look, sizeN, mkV, Nat.reduceEqDiff, reduceIte, axL, hvl']; rfl) ?_)
      | (first | with_reducible refine is_wd ?_ | with_reducible refine dk_wd ?_); refine go_dt _ (by simp only [Ax.runDK, Ax.runDT, Ax.runDops, Ax.run1d, Ax.recs, Ax.okPair, Ax.idsE, Ax.idsV, AOp.mems, AOp.isWrite, DRec.none, axD, Ax.runK, Ax.runOps, Ax.run1, Ax.wantA, Ax.step, Ax.ev, Ax.evs, Ax.evo, Ax.evp, Ax.look, Ax.putE, Ax.keepE, Ax.argsE, Ax.extr, Ax.binV, Ax.intBin, Ax.unV, Ax.addOff, Ax.sizeN, Ax.mkV, Ax.okV, reduceIte, Nat.reduceEqDiff, Nat.reduceAdd, Nat.reduceLeDiff, Nat.reduceLT, Nat.reduceSub, Nat.reduceMul, reduceCtorEq, Int.reduceEq, Int.reduceLT, Int.reduceLE, Int.reduceAdd, Int.reduceSub, Int.reduceNeg, Int.reduceToNat, undef, Value.cells, axL, hvl']; rfl) rfl ?_
      | (with_reducible first | refine end_reg (Ev.mono _ _) ?_ | refine end_dreg (Ev.mono _ _) ?_ | refine end_cond (Ev.mono _ _) ?_ | refine end_block (Ev.mono _ _) ?_ | refine end_loop (Ev.mono _ _) ?_))
    obtain ⟨s0, hs0⟩ : ∃ s0, s0 = s := ⟨_, rfl⟩
    have hmem : ∀ y ∈ s, ∃ j, j < l.length ∧ y = itemOf l j := fun y hy => hs.mem hy
    have hsl := hs.len
    have hso := hs.sorted
    obtain ⟨sq, hsq⟩ : ∃ sq : Int, sq = l.length := ⟨_, rfl⟩
    rw [← hsq] at H2
    clear hsq
    clear hs0 hs s0 wk hlt H H1
    refine go_loop (Ev.mono _ _) (fun (g : Nat × Int × Int) ρ S' => g.1 ≤ l.length ∧ ρ = [(43, .int .i64 g.1), (7, .int .i64 g.2.1), (6, .int .i64 g.2.2), (0, v'), (3, .pointer (some ⟨hd, 0, none⟩)), (42, .int .i64 l.length)] ∧ ∃ s, (∀ y ∈ s, ∃ j, j < l.length ∧ y = itemOf l j) ∧ s.length = l.length - g.1 ∧ Sorted s ∧ (0 < g.1 → ∀ y ∈ s, g.2.2 < y.when ∨ g.2.2 = y.when ∧ g.2.1 < y.x) ∧ St R (HeapA hd s sq :: F) S') (fun g => l.length - g.1) (0, -1, 0) ⟨Nat.zero_le _, rfl, s, hmem, by rw [hsl]; rfl, hso, fun h => absurd h (Nat.lt_irrefl _), H2⟩ ?_
    clear hmem hsl hso H2 hk
    rintro ⟨k, lx, lw⟩ ρ S3 ⟨hk, rfl, s, hmem, hsl, hso, hlast, H2⟩
    dsimp only at hk hsl hlast
    have wk : IntKind.wrap .i64 ((k : Int) + 1) = ((k + 1 : Nat) : Int) := wrapI (n := (k : Int) + 1) (by unfold I64; omega)
    repeat' (first
      | (with_reducible first | refine go_assoc ?_ (Ev.mono _ _) | refine go_skip ?_ | refine go_fin ?_ | refine go_ret ?_ | refine go_ret0 ?_ | refine go_exit ?_ | refine go_exit0 ?_ | refine go_block ?_ | refine n_then ?_ | refine x_then ?_ | refine r_then ?_ | refine n_block ?_ | refine r_block ?_ | refine x_block ?_ | refine x_block_ne ?_ (by decide))
      | (with_reducible refine is_k ?_; refine go_k _ (by simp only [Ax.runK, Ax.runOps, Ax.run1, Ax.wantA, Ax.step, Ax.ev, Ax.evs, Ax.evo, Ax.evp, Ax.look, Ax.putE, Ax.keepE, Ax.argsE, Ax.extr, Ax.binV, Ax.intBin, Ax.unV, Ax.addOff, Ax.sizeN, Ax.mkV, Ax.okV, reduceIte, Nat.reduceEqDiff, Nat.reduceAdd, Nat.reduceLeDiff, Nat.reduceLT, Nat.reduceSub, Nat.reduceMul, reduceCtorEq, Int.reduceEq, Int.reduceLT, Int.reduceLE, Int.reduceAdd, Int.reduceSub, Int.reduceNeg, Int.reduceToNat, undef, Value.cells, axL]; rfl) rfl ?_)
      | (with_reducible refine cond_t ?_ ?_; · simp only [Ax.ev, Ax.look, reduceIte, Nat.reduceEqDiff])
      | (with_reducible refine cond_f ?_ ?_; · simp only [Ax.ev, Ax.look, reduceIte, Nat.reduceEqDiff])
      | (with_reducible refine is_rp ?_; first | refine r_postR rfl ?_ | refine r_postR (by simp only [Ax.result, Ax.resVs, Ax.resV, R3, Ax.look, sizeN, mkV, Nat.reduceEqDiff, reduceIte, axL]; rfl) ?_)
      | (with_reducible refine is_np ?_; first | refine n_postR rfl ?_ | refine n_postR (by simp only [Ax.result, Ax.resVs, Ax.resV, R3, Ax.look, sizeN, mkV, Nat.reduceEqDiff, reduceIte, axL]; rfl) ?_)
      | (first | with_reducible refine is_wd ?_ | with_reducible refine dk_wd ?_); refine go_dt _ (by simp only [Ax.runDK, Ax.runDT, Ax.runDops, Ax.run1d, Ax.recs, Ax.okPair, Ax.idsE, Ax.idsV, AOp.mems, AOp.isWrite, DRec.none, axD, Ax.runK, Ax.runOps, Ax.run1, Ax.wantA, Ax.step, Ax.ev, Ax.evs, Ax.evo, Ax.evp, Ax.look, Ax.putE, Ax.keepE, Ax.argsE, Ax.extr, Ax.binV, Ax.intBin, Ax.unV, Ax.addOff, Ax.sizeN, Ax.mkV, Ax.okV, reduceIte, Nat.reduceEqDiff, Nat.reduceAdd, Nat.reduceLeDiff, Nat.reduceLT, Nat.reduceSub, Nat.reduceMul, reduceCtorEq, Int.reduceEq, Int.reduceLT, Int.reduceLE, Int.reduceAdd, Int.reduceSub, Int.reduceNeg, Int.reduceToNat, undef, Value.cells, axL]; rfl) rfl ?_
      | (with_reducible first | refine end_reg (Ev.mono _ _) ?_ | refine end_dreg (Ev.mono _ _) ?_ | refine end_cond (Ev.mono _ _) ?_ | refine end_block (Ev.mono _ _) ?_ | refine end_loop (Ev.mono _ _) ?_))
    refine cond_d rfl (fun hlt => ?_) (fun hlt => ?_)
    · have hkl : k < l.length := by omega
      repeat' (first
      | (with_reducible first | refine go_assoc ?_ (Ev.mono _ _) | refine go_skip ?_ | refine go_fin ?_ | refine go_ret ?_ | refine go_ret0 ?_ | refine go_exit ?_ | refine go_exit0 ?_ | refine go_block ?_ | refine n_then ?_ | refine x_then ?_ | refine r_then ?_ | refine n_block ?_ | refine r_block ?_ | refine x_block ?_ | refine x_block_ne ?_ (by decide))
      | (with_reducible refine is_k ?_; refine go_k _ (by simp only [Ax.runK, Ax.runOps, Ax.run1, Ax.wantA, Ax.step, Ax.ev, Ax.evs, Ax.evo, Ax.evp, Ax.look, Ax.putE, Ax.keepE, Ax.argsE, Ax.extr, Ax.binV, Ax.intBin, Ax.unV, Ax.addOff, Ax.sizeN, Ax.mkV, Ax.okV, reduceIte, Nat.reduceEqDiff, Nat.reduceAdd, Nat.reduceLeDiff, Nat.reduceLT, Nat.reduceSub, Nat.reduceMul, reduceCtorEq, Int.reduceEq, Int.reduceLT, Int.reduceLE, Int.reduceAdd, Int.reduceSub, Int.reduceNeg, Int.reduceToNat, undef, Value.cells, axL]; rfl) rfl ?_)
      | (with_reducible refine cond_t ?_ ?_; · simp only [Ax.ev, Ax.look, reduceIte, Nat.reduceEqDiff])
      | (with_reducible refine cond_f ?_ ?_; · simp only [Ax.ev, Ax.look, reduceIte, Nat.reduceEqDiff])
      | (with_reducible refine is_rp ?_; first | refine r_postR rfl ?_ | refine r_postR (by simp only [Ax.result, Ax.resVs, Ax.resV, R3, Ax.look, sizeN, mkV, Nat.reduceEqDiff, reduceIte, axL]; rfl) ?_)
      | (with_reducible refine is_np ?_; first | refine n_postR rfl ?_ | refine n_postR (by simp only [Ax.result, Ax.resVs, Ax.resV, R3, Ax.look, sizeN, mkV, Nat.reduceEqDiff, reduceIte, axL]; rfl) ?_)
      | (first | with_reducible refine is_wd ?_ | with_reducible refine dk_wd ?_); refine go_dt _ (by simp only [Ax.runDK, Ax.runDT, Ax.runDops, Ax.run1d, Ax.recs, Ax.okPair, Ax.idsE, Ax.idsV, AOp.mems, AOp.isWrite, DRec.none, axD, Ax.runK, Ax.runOps, Ax.run1, Ax.wantA, Ax.step, Ax.ev, Ax.evs, Ax.evo, Ax.evp, Ax.look, Ax.putE, Ax.keepE, Ax.argsE, Ax.extr, Ax.binV, Ax.intBin, Ax.unV, Ax.addOff, Ax.sizeN, Ax.mkV, Ax.okV, reduceIte, Nat.reduceEqDiff, Nat.reduceAdd, Nat.reduceLeDiff, Nat.reduceLT, Nat.reduceSub, Nat.reduceMul, reduceCtorEq, Int.reduceEq, Int.reduceLT, Int.reduceLE, Int.reduceAdd, Int.reduceSub, Int.reduceNeg, Int.reduceToNat, undef, Value.cells, axL]; rfl) rfl ?_
      | (with_reducible first | refine end_reg (Ev.mono _ _) ?_ | refine end_dreg (Ev.mono _ _) ?_ | refine end_cond (Ev.mono _ _) ?_ | refine end_block (Ev.mono _ _) ?_ | refine end_loop (Ev.mono _ _) ?_))
      repeat' (with_reducible first | refine go_assoc ?_ (Ev.mono _ _) | refine go_skip ?_ | refine go_block ?_ | refine end_reg (Ev.mono _ _) ?_)
      refine go_callN 1 _ (by simp only [Ax.runN, Ax.runK, Ax.runOps, Ax.run1, Ax.wantA, Ax.step, Ax.ev, Ax.evs, Ax.evo, Ax.evp, Ax.look, Ax.putE, Ax.keepE, Ax.argsE, Ax.extr, Ax.binV, Ax.intBin, Ax.unV, Ax.addOff, Ax.sizeN, Ax.mkV, Ax.okV, reduceIte, Nat.reduceEqDiff, Nat.reduceAdd, Nat.reduceLeDiff, Nat.reduceLT, Nat.reduceSub, Nat.reduceMul, reduceCtorEq, Int.reduceEq, Int.reduceLT, Int.reduceLE, Int.reduceAdd, Int.reduceSub, Int.reduceNeg, Int.reduceToNat, undef, Value.cells, axL]; rfl) rfl rfl (by simp only [Ax.wantA, Ax.look, reduceIte, Nat.reduceEqDiff, bq_t, bq_f, Bool.not_true, Bool.not_false]; try rfl) rfl (by simp only [Ax.runK, Ax.runOps, Ax.run1, Ax.wantA, Ax.step, Ax.ev, Ax.evs, Ax.evo, Ax.evp, Ax.look, Ax.putE, Ax.keepE, Ax.argsE, Ax.extr, Ax.binV, Ax.intBin, Ax.unV, Ax.addOff, Ax.sizeN, Ax.mkV, Ax.okV, reduceIte, Nat.reduceEqDiff, Nat.reduceAdd, Nat.reduceLeDiff, Nat.reduceLT, Nat.reduceSub, Nat.reduceMul, reduceCtorEq, Int.reduceEq, Int.reduceLT, Int.reduceLE, Int.reduceAdd, Int.reduceSub, Int.reduceNeg, Int.reduceToNat, undef, Value.cells, axL]; try rfl) ?_
      refine pop_spec XL H2 (by omega) (fun h0 => by subst h0; simp at hsl; omega) (fun a t S4 hat H4 => ?_)
      subst hat
      obtain ⟨j, hj, ha⟩ := hmem a (by simp)
      have hax : a.x = (j : Int) := by rw [ha]; rfl
      have haw : a.when = l[j] := by rw [ha]; simp [itemOf, hj]
      obtain ⟨b, c, f1, f2, f3, f4⟩ := RdT.at (hv'.rd H4) hj .i64
      have x0 : ¬ (j : Int) < 0 := by omega
      have xn : ¬ (l.length : Int) ≤ (j : Int) := by omega
      obtain ⟨hlt', hso'⟩ := List.pairwise_cons.1 hso
      have hkeep : ∀ y ∈ t, l[j] < y.when ∨ l[j] = y.when ∧ (j : Int) < y.x := fun y hy => by
        have h1 := hlt' y hy
        obtain ⟨j', _, rfl⟩ := hmem y (by simp [hy])
        rw [ha] at h1
        simp only [ltI, itemOf, List.getD_eq_getElem?_getD, List.getElem?_eq_getElem hj, Option.getD_some] at h1 ⊢
        exact h1
      have fin : ∃ s', (∀ y ∈ s', ∃ j, j < l.length ∧ y = itemOf l j) ∧ s'.length = l.length - (k + 1) ∧ Sorted s' ∧ (0 < k + 1 → ∀ y ∈ s', l[j] < y.when ∨ l[j] = y.when ∧ (j : Int) < y.x) ∧ St R (HeapA hd s' sq :: F) S4 :=
        ⟨t, fun y hy => hmem y (by simp [hy]), by simp at hsl; omega, hso', fun _ => hkeep, H4⟩
      by_cases hk0 : 0 < k
      · have hk0' : 0 < (k : Int) := by omega
        have hla := hlast hk0 a (by simp)
        rw [hax, haw] at hla
        have c1 : ¬ l[j] < lw := by omega
        by_cases c2 : l[j] = lw
        · have c3 : ¬ (j : Int) ≤ lx := by omega
          rw [← c2] at c1
          repeat' (first
      | (with_reducible first | refine go_assoc ?_ (Ev.mono _ _) | refine go_skip ?_ | refine go_fin ?_ | refine go_ret ?_ | refine go_ret0 ?_ | refine go_exit ?_ | refine go_exit0 ?_ | refine go_block ?_ | refine n_then ?_ | refine x_then ?_ | refine r_then ?_ | refine n_block ?_ | refine r_block ?_ | refine x_block ?_ | refine x_block_ne ?_ (by decide))
      | (with_reducible refine is_k ?_; refine go_k _ (by simp only [Ax.runK, Ax.runOps, Ax.run1, Ax.wantA, Ax.step, Ax.ev, Ax.evs, Ax.evo, Ax.evp, Ax.look, Ax.putE, Ax.keepE, Ax.argsE, Ax.extr, Ax.binV, Ax.intBin, Ax.unV, Ax.addOff, Ax.sizeN, Ax.mkV, Ax.okV, reduceIte, Nat.reduceEqDiff, Nat.reduceAdd, Nat.reduceLeDiff, Nat.reduceLT, Nat.reduceSub, Nat.reduceMul, reduceCtorEq, Int.reduceEq, Int.reduceLT, Int.reduceLE, Int.reduceAdd, Int.reduceSub, Int.reduceNeg, Int.reduceToNat, undef, Value.cells, axL, hax, haw, x0, xn, hvl', f1, f3, hk0', c1, ← c2, c3, wk]; rfl) rfl ?_)
      | (with_reducible refine cond_t ?_ ?_; · simp only [Ax.ev, Ax.look, reduceIte, Nat.reduceEqDiff])
      | (with_reducible refine cond_f ?_ ?_; · simp only [Ax.ev, Ax.look, reduceIte, Nat.reduceEqDiff])
      | (with_reducible refine is_rp ?_; first | refine r_postR rfl ?_ | refine r_postR (by simp only [Ax.result, Ax.resVs, Ax.resV, R3, Ax.look, sizeN, mkV, Nat.reduceEqDiff, reduceIte, axL, hax, haw, x0, xn, hvl', f1, f3, hk0', c1, ← c2, c3, wk]; rfl) ?_)
      | (with_reducible refine is_np ?_; first | refine n_postR rfl ?_ | refine n_postR (by simp only [Ax.result, Ax.resVs, Ax.resV, R3, Ax.look, sizeN, mkV, Nat.reduceEqDiff, reduceIte, axL, hax, haw, x0, xn, hvl', f1, f3, hk0', c1, ← c2, c3, wk]; rfl) ?_)
      | (first | with_reducible refine is_wd ?_ | with_reducible refine dk_wd ?_); refine go_dt _ (by simp only [Ax.runDK, Ax.runDT, Ax.runDops, Ax.run1d, Ax.recs, Ax.okPair, Ax.idsE, Ax.idsV, AOp.mems, AOp.isWrite, DRec.none, axD, Ax.runK, Ax.runOps, Ax.run1, Ax.wantA, Ax.step, Ax.ev, Ax.evs, Ax.evo, Ax.evp, Ax.look, Ax.putE, Ax.keepE, Ax.argsE, Ax.extr, Ax.binV, Ax.intBin, Ax.unV, Ax.addOff, Ax.sizeN, Ax.mkV, Ax.okV, reduceIte, Nat.reduceEqDiff, Nat.reduceAdd, Nat.reduceLeDiff, Nat.reduceLT, Nat.reduceSub, Nat.reduceMul, reduceCtorEq, Int.reduceEq, Int.reduceLT, Int.reduceLE, Int.reduceAdd, Int.reduceSub, Int.reduceNeg, Int.reduceToNat, undef, Value.cells, axL, hax, haw, x0, xn, hvl', f1, f3, hk0', c1, ← c2, c3, wk]; rfl) rfl ?_
      | (with_reducible first | refine end_reg (Ev.mono _ _) ?_ | refine end_dreg (Ev.mono _ _) ?_ | refine end_cond (Ev.mono _ _) ?_ | refine end_block (Ev.mono _ _) ?_ | refine end_loop (Ev.mono _ _) ?_))
          exact ⟨(k + 1, (j : Int), l[j]), by dsimp only; omega, hkl, rfl, fin⟩
        · repeat' (first
      | (with_reducible first | refine go_assoc ?_ (Ev.mono _ _) | refine go_skip ?_ | refine go_fin ?_ | refine go_ret ?_ | refine go_ret0 ?_ | refine go_exit ?_ | refine go_exit0 ?_ | refine go_block ?_ | refine n_then ?_ | refine x_then ?_ | refine r_then ?_ | refine n_block ?_ | refine r_block ?_ | refine x_block ?_ | refine x_block_ne ?_ (by decide))
      | (with_reducible refine is_k ?_; refine go_k _ (by simp only [Ax.runK, Ax.runOps, Ax.run1, Ax.wantA, Ax.step, Ax.ev, Ax.evs, Ax.evo, Ax.evp, Ax.look, Ax.putE, Ax.keepE, Ax.argsE, Ax.extr, Ax.binV, Ax.intBin, Ax.unV, Ax.addOff, Ax.sizeN, Ax.mkV, Ax.okV, reduceIte, Nat.reduceEqDiff, Nat.reduceAdd, Nat.reduceLeDiff, Nat.reduceLT, Nat.reduceSub, Nat.reduceMul, reduceCtorEq, Int.reduceEq, Int.reduceLT, Int.reduceLE, Int.reduceAdd, Int.reduceSub, Int.reduceNeg, Int.reduceToNat, undef, Value.cells, axL, hax, haw, x0, xn, hvl', f1, f3, hk0', c1, c2, wk]; rfl) rfl ?_)
      | (with_reducible refine cond_t ?_ ?_; · simp only [Ax.ev, Ax.look, reduceIte, Nat.reduceEqDiff])
      | (with_reducible refine cond_f ?_ ?_; · simp only [Ax.ev, Ax.look, reduceIte, Nat.reduceEqDiff])
      | (with_reducible refine is_rp ?_; first | refine r_postR rfl ?_ | refine r_postR (by simp only [Ax.result, Ax.resVs, Ax.resV, R3, Ax.look, sizeN, mkV, Nat.reduceEqDiff, reduceIte, axL, hax, haw, x0, xn, hvl', f1, f3, hk0', c1, c2, wk]; rfl) ?_)
      | (with_reducible refine is_np ?_; first | refine n_postR rfl ?_ | refine n_postR (by simp only [Ax.result, Ax.resVs, Ax.resV, R3, Ax.look, sizeN, mkV, Nat.reduceEqDiff, reduceIte, axL, hax, haw, x0, xn, hvl', f1, f3, hk0', c1, c2, wk]; rfl) ?_)
      | (first | with_reducible refine is_wd ?_ | with_reducible refine dk_wd ?_); refine go_dt _ (by simp only [Ax.runDK, Ax.runDT, Ax.runDops, Ax.run1d, Ax.recs, Ax.okPair, Ax.idsE, Ax.idsV, AOp.mems, AOp.isWrite, DRec.none, axD, Ax.runK, Ax.runOps, Ax.run1, Ax.wantA, Ax.step, Ax.ev, Ax.evs, Ax.evo, Ax.evp, Ax.look, Ax.putE, Ax.keepE, Ax.argsE, Ax.extr, Ax.binV, Ax.intBin, Ax.unV, Ax.addOff, Ax.sizeN, Ax.mkV, Ax.okV, reduceIte, Nat.reduceEqDiff, Nat.reduceAdd, Nat.reduceLeDiff, Nat.reduceLT, Nat.reduceSub, Nat.reduceMul, reduceCtorEq, Int.reduceEq, Int.reduceLT, Int.reduceLE, Int.reduceAdd, Int.reduceSub, Int.reduceNeg, Int.reduceToNat, undef, Value.cells, axL, hax, haw, x0, xn, hvl', f1, f3, hk0', c1, c2, wk]; rfl) rfl ?_
      | (with_reducible first | refine end_reg (Ev.mono _ _) ?_ | refine end_dreg (Ev.mono _ _) ?_ | refine end_cond (Ev.mono _ _) ?_ | refine end_block (Ev.mono _ _) ?_ | refine end_loop (Ev.mono _ _) ?_))
          exact ⟨(k + 1, (j : Int), l[j]), by dsimp only; omega, hkl, rfl, fin⟩
      · have hk0' : ¬ 0 < (k : Int) := by omega
        repeat' (first
      | (with_reducible first | refine go_assoc ?_ (Ev.mono _ _) | refine go_skip ?_ | refine go_fin ?_ | refine go_ret ?_ | refine go_ret0 ?_ | refine go_exit ?_ | refine go_exit0 ?_ | refine go_block ?_ | refine n_then ?_ | refine x_then ?_ | refine r_then ?_ | refine n_block ?_ | refine r_block ?_ | refine x_block ?_ | refine x_block_ne ?_ (by decide))
      | (with_reducible refine is_k ?_; refine go_k _ (by simp only [Ax.runK, Ax.runOps, Ax.run1, Ax.wantA, Ax.step, Ax.ev, Ax.evs, Ax.evo, Ax.evp, Ax.look, Ax.putE, Ax.keepE, Ax.argsE, Ax.extr, Ax.binV, Ax.intBin, Ax.unV, Ax.addOff, Ax.sizeN, Ax.mkV, Ax.okV, reduceIte, Nat.reduceEqDiff, Nat.reduceAdd, Nat.reduceLeDiff, Nat.reduceLT, Nat.reduceSub, Nat.reduceMul, reduceCtorEq, Int.reduceEq, Int.reduceLT, Int.reduceLE, Int.reduceAdd, Int.reduceSub, Int.reduceNeg, Int.reduceToNat, undef, Value.cells, axL, hax, haw, x0, xn, hvl', f1, f3, hk0', wk]; rfl) rfl ?_)
      | (with_reducible refine cond_t ?_ ?_; · simp only [Ax.ev, Ax.look, reduceIte, Nat.reduceEqDiff])
      | (with_reducible refine cond_f ?_ ?_; · simp only [Ax.ev, Ax.look, reduceIte, Nat.reduceEqDiff])
      | (with_reducible refine is_rp ?_; first | refine r_postR rfl ?_ | refine r_postR (by simp only [Ax.result, Ax.resVs, Ax.resV, R3, Ax.look, sizeN, mkV, Nat.reduceEqDiff, reduceIte, axL, hax, haw, x0, xn, hvl', f1, f3, hk0', wk]; rfl) ?_)
      | (with_reducible refine is_np ?_; first | refine n_postR rfl ?_ | refine n_postR (by simp only [Ax.result, Ax.resVs, Ax.resV, R3, Ax.look, sizeN, mkV, Nat.reduceEqDiff, reduceIte, axL, hax, haw, x0, xn, hvl', f1, f3, hk0', wk]; rfl) ?_)
      | (first | with_reducible refine is_wd ?_ | with_reducible refine dk_wd ?_); refine go_dt _ (by simp only [Ax.runDK, Ax.runDT, Ax.runDops, Ax.run1d, Ax.recs, Ax.okPair, Ax.idsE, Ax.idsV, AOp.mems, AOp.isWrite, DRec.none, axD, Ax.runK, Ax.runOps, Ax.run1, Ax.wantA, Ax.step, Ax.ev, Ax.evs, Ax.evo, Ax.evp, Ax.look, Ax.putE, Ax.keepE, Ax.argsE, Ax.extr, Ax.binV, Ax.intBin, Ax.unV, Ax.addOff, Ax.sizeN, Ax.mkV, Ax.okV, reduceIte, Nat.reduceEqDiff, Nat.reduceAdd, Nat.reduceLeDiff, Nat.reduceLT, Nat.reduceSub, Nat.reduceMul, reduceCtorEq, Int.reduceEq, Int.reduceLT, Int.reduceLE, Int.reduceAdd, Int.reduceSub, Int.reduceNeg, Int.reduceToNat, undef, Value.cells, axL, hax, haw, x0, xn, hvl', f1, f3, hk0', wk]; rfl) rfl ?_
      | (with_reducible first | refine end_reg (Ev.mono _ _) ?_ | refine end_dreg (Ev.mono _ _) ?_ | refine end_cond (Ev.mono _ _) ?_ | refine end_block (Ev.mono _ _) ?_ | refine end_loop (Ev.mono _ _) ?_))
        exact ⟨(k + 1, (j : Int), l[j]), by dsimp only; omega, hkl, rfl, fin⟩
    · have hkn : k = l.length := by omega
      subst hkn
      have hs0 : s = [] := List.eq_nil_of_length_eq_zero (by omega)
      subst hs0
      repeat' (first
      | (with_reducible first | refine go_assoc ?_ (Ev.mono _ _) | refine go_skip ?_ | refine go_fin ?_ | refine go_ret ?_ | refine go_ret0 ?_ | refine go_exit ?_ | refine go_exit0 ?_ | refine go_block ?_ | refine n_then ?_ | refine x_then ?_ | refine r_then ?_ | refine n_block ?_ | refine r_block ?_ | refine x_block ?_ | refine x_block_ne ?_ (by decide))
      | (with_reducible refine is_k ?_; refine go_k _ (by simp only [Ax.runK, Ax.runOps, Ax.run1, Ax.wantA, Ax.step, Ax.ev, Ax.evs, Ax.evo, Ax.evp, Ax.look, Ax.putE, Ax.keepE, Ax.argsE, Ax.extr, Ax.binV, Ax.intBin, Ax.unV, Ax.addOff, Ax.sizeN, Ax.mkV, Ax.okV, reduceIte, Nat.reduceEqDiff, Nat.reduceAdd, Nat.reduceLeDiff, Nat.reduceLT, Nat.reduceSub, Nat.reduceMul, reduceCtorEq, Int.reduceEq, Int.reduceLT, Int.reduceLE, Int.reduceAdd, Int.reduceSub, Int.reduceNeg, Int.reduceToNat, undef, Value.cells, axL]; rfl) rfl ?_)
      | (with_reducible refine cond_t ?_ ?_; · simp only [Ax.ev, Ax.look, reduceIte, Nat.reduceEqDiff])
      | (with_reducible refine cond_f ?_ ?_; · simp only [Ax.ev, Ax.look, reduceIte, Nat.reduceEqDiff])
      | (with_reducible refine is_rp ?_; first | refine r_postR rfl ?_ | refine r_postR (by simp only [Ax.result, Ax.resVs, Ax.resV, R3, Ax.look, sizeN, mkV, Nat.reduceEqDiff, reduceIte, axL]; rfl) ?_)
      | (with_reducible refine is_np ?_; first | refine n_postR rfl ?_ | refine n_postR (by simp only [Ax.result, Ax.resVs, Ax.resV, R3, Ax.look, sizeN, mkV, Nat.reduceEqDiff, reduceIte, axL]; rfl) ?_)
      | (first | with_reducible refine is_wd ?_ | with_reducible refine dk_wd ?_); refine go_dt _ (by simp only [Ax.runDK, Ax.runDT, Ax.runDops, Ax.run1d, Ax.recs, Ax.okPair, Ax.idsE, Ax.idsV, AOp.mems, AOp.isWrite, DRec.none, axD, Ax.runK, Ax.runOps, Ax.run1, Ax.wantA, Ax.step, Ax.ev, Ax.evs, Ax.evo, Ax.evp, Ax.look, Ax.putE, Ax.keepE, Ax.argsE, Ax.extr, Ax.binV, Ax.intBin, Ax.unV, Ax.addOff, Ax.sizeN, Ax.mkV, Ax.okV, reduceIte, Nat.reduceEqDiff, Nat.reduceAdd, Nat.reduceLeDiff, Nat.reduceLT, Nat.reduceSub, Nat.reduceMul, reduceCtorEq, Int.reduceEq, Int.reduceLT, Int.reduceLE, Int.reduceAdd, Int.reduceSub, Int.reduceNeg, Int.reduceToNat, undef, Value.cells, axL]; rfl) rfl ?_
      | (with_reducible first | refine end_reg (Ev.mono _ _) ?_ | refine end_dreg (Ev.mono _ _) ?_ | refine end_cond (Ev.mono _ _) ?_ | refine end_block (Ev.mono _ _) ?_ | refine end_loop (Ev.mono _ _) ?_))
      repeat' (with_reducible first | refine go_assoc ?_ (Ev.mono _ _) | refine go_skip ?_ | refine go_block ?_ | refine end_reg (Ev.mono _ _) ?_)
      refine go_callN 1 _ (by simp only [Ax.runN, Ax.runK, Ax.runOps, Ax.run1, Ax.wantA, Ax.step, Ax.ev, Ax.evs, Ax.evo, Ax.evp, Ax.look, Ax.putE, Ax.keepE, Ax.argsE, Ax.extr, Ax.binV, Ax.intBin, Ax.unV, Ax.addOff, Ax.sizeN, Ax.mkV, Ax.okV, reduceIte, Nat.reduceEqDiff, Nat.reduceAdd, Nat.reduceLeDiff, Nat.reduceLT, Nat.reduceSub, Nat.reduceMul, reduceCtorEq, Int.reduceEq, Int.reduceLT, Int.reduceLE, Int.reduceAdd, Int.reduceSub, Int.reduceNeg, Int.reduceToNat, undef, Value.cells, axL]; rfl) rfl rfl (by simp only [Ax.wantA, Ax.look, reduceIte, Nat.reduceEqDiff, bq_t, bq_f, Bool.not_true, Bool.not_false]; try rfl) rfl (by simp only [Ax.runK, Ax.runOps, Ax.run1, Ax.wantA, Ax.step, Ax.ev, Ax.evs, Ax.evo, Ax.evp, Ax.look, Ax.putE, Ax.keepE, Ax.argsE, Ax.extr, Ax.binV, Ax.intBin, Ax.unV, Ax.addOff, Ax.sizeN, Ax.mkV, Ax.okV, reduceIte, Nat.reduceEqDiff, Nat.reduceAdd, Nat.reduceLeDiff, Nat.reduceLT, Nat.reduceSub, Nat.reduceMul, reduceCtorEq, Int.reduceEq, Int.reduceLT, Int.reduceLE, Int.reduceAdd, Int.reduceSub, Int.reduceNeg, Int.reduceToNat, undef, Value.cells, axL]; try rfl) ?_
      refine pop_spec XL H2 (by simp) (fun _ => ?_) (fun a t S4 hat H4 => by cases hat)
      repeat' (first
      | (with_reducible first | refine go_assoc ?_ (Ev.mono _ _) | refine go_skip ?_ | refine go_fin ?_ | refine go_ret ?_ | refine go_ret0 ?_ | refine go_exit ?_ | refine go_exit0 ?_ | refine go_block ?_ | refine n_then ?_ | refine x_then ?_ | refine r_then ?_ | refine n_block ?_ | refine r_block ?_ | refine x_block ?_ | refine x_block_ne ?_ (by decide))
      | (with_reducible refine is_k ?_; refine go_k _ (by simp only [Ax.runK, Ax.runOps, Ax.run1, Ax.wantA, Ax.step, Ax.ev, Ax.evs, Ax.evo, Ax.evp, Ax.look, Ax.putE, Ax.keepE, Ax.argsE, Ax.extr, Ax.binV, Ax.intBin, Ax.unV, Ax.addOff, Ax.sizeN, Ax.mkV, Ax.okV, reduceIte, Nat.reduceEqDiff, Nat.reduceAdd, Nat.reduceLeDiff, Nat.reduceLT, Nat.reduceSub, Nat.reduceMul, reduceCtorEq, Int.reduceEq, Int.reduceLT, Int.reduceLE, Int.reduceAdd, Int.reduceSub, Int.reduceNeg, Int.reduceToNat, undef, Value.cells, axL]; rfl) rfl ?_)
      | (with_reducible refine cond_t ?_ ?_; · simp only [Ax.ev, Ax.look, reduceIte, Nat.reduceEqDiff])
      | (with_reducible refine cond_f ?_ ?_; · simp only [Ax.ev, Ax.look, reduceIte, Nat.reduceEqDiff])
      | (with_reducible refine is_rp ?_; first | refine r_postR rfl ?_ | refine r_postR (by simp only [Ax.result, Ax.resVs, Ax.resV, R3, Ax.look, sizeN, mkV, Nat.reduceEqDiff, reduceIte, axL]; rfl) ?_)
      | (with_reducible refine is_np ?_; first | refine n_postR rfl ?_ | refine n_postR (by simp only [Ax.result, Ax.resVs, Ax.resV, R3, Ax.look, sizeN, mkV, Nat.reduceEqDiff, reduceIte, axL]; rfl) ?_)
      | (first | with_reducible refine is_wd ?_ | with_reducible refine dk_wd ?_); refine go_dt _ (by simp only [Ax.runDK, Ax.runDT, Ax.runDops, Ax.run1d, Ax.recs, Ax.okPair, Ax.idsE, Ax.idsV, AOp.mems, AOp.isWrite, DRec.none, axD, Ax.runK, Ax.runOps, Ax.run1, Ax.wantA, Ax.step, Ax.ev, Ax.evs, Ax.evo, Ax.evp, Ax.look, Ax.putE, Ax.keepE, Ax.argsE, Ax.extr, Ax.binV, Ax.intBin, Ax.unV, Ax.addOff, Ax.sizeN, Ax.mkV, Ax.okV, reduceIte, Nat.reduceEqDiff, Nat.reduceAdd, Nat.reduceLeDiff, Nat.reduceLT, Nat.reduceSub, Nat.reduceMul, reduceCtorEq, Int.reduceEq, Int.reduceLT, Int.reduceLE, Int.reduceAdd, Int.reduceSub, Int.reduceNeg, Int.reduceToNat, undef, Value.cells, axL]; rfl) rfl ?_
      | (with_reducible first | refine end_reg (Ev.mono _ _) ?_ | refine end_dreg (Ev.mono _ _) ?_ | refine end_cond (Ev.mono _ _) ?_ | refine end_block (Ev.mono _ _) ?_ | refine end_loop (Ev.mono _ _) ?_))
      repeat' (with_reducible first | refine go_assoc ?_ (Ev.mono _ _) | refine go_skip ?_ | refine go_block ?_ | refine end_reg (Ev.mono _ _) ?_)
      refine go_callN 3 _ (by simp only [Ax.runN, Ax.runK, Ax.runOps, Ax.run1, Ax.wantA, Ax.step, Ax.ev, Ax.evs, Ax.evo, Ax.evp, Ax.look, Ax.putE, Ax.keepE, Ax.argsE, Ax.extr, Ax.binV, Ax.intBin, Ax.unV, Ax.addOff, Ax.sizeN, Ax.mkV, Ax.okV, reduceIte, Nat.reduceEqDiff, Nat.reduceAdd, Nat.reduceLeDiff, Nat.reduceLT, Nat.reduceSub, Nat.reduceMul, reduceCtorEq, Int.reduceEq, Int.reduceLT, Int.reduceLE, Int.reduceAdd, Int.reduceSub, Int.reduceNeg, Int.reduceToNat, undef, Value.cells, axL]; rfl) rfl rfl (by simp only [Ax.wantA, Ax.look, reduceIte, Nat.reduceEqDiff, bq_t, bq_f, Bool.not_true, Bool.not_false]; try rfl) rfl (by simp only [Ax.runK, Ax.runOps, Ax.run1, Ax.wantA, Ax.step, Ax.ev, Ax.evs, Ax.evo, Ax.evp, Ax.look, Ax.putE, Ax.keepE, Ax.argsE, Ax.extr, Ax.binV, Ax.intBin, Ax.unV, Ax.addOff, Ax.sizeN, Ax.mkV, Ax.okV, reduceIte, Nat.reduceEqDiff, Nat.reduceAdd, Nat.reduceLeDiff, Nat.reduceLT, Nat.reduceSub, Nat.reduceMul, reduceCtorEq, Int.reduceEq, Int.reduceLT, Int.reduceLE, Int.reduceAdd, Int.reduceSub, Int.reduceNeg, Int.reduceToNat, undef, Value.cells, axL]; try rfl) ?_
      refine Ev.known G_live X_live ?_
      repeat' (first
      | (with_reducible first | refine go_assoc ?_ (Ev.mono _ _) | refine go_skip ?_ | refine go_fin ?_ | refine go_ret ?_ | refine go_ret0 ?_ | refine go_exit ?_ | refine go_exit0 ?_ | refine go_block ?_ | refine n_then ?_ | refine x_then ?_ | refine r_then ?_ | refine n_block ?_ | refine r_block ?_ | refine x_block ?_ | refine x_block_ne ?_ (by decide))
      | (with_reducible refine is_k ?_; refine go_k _ (by simp only [Ax.runK, Ax.runOps, Ax.run1, Ax.wantA, Ax.step, Ax.ev, Ax.evs, Ax.evo, Ax.evp, Ax.look, Ax.putE, Ax.keepE, Ax.argsE, Ax.extr, Ax.binV, Ax.intBin, Ax.unV, Ax.addOff, Ax.sizeN, Ax.mkV, Ax.okV, reduceIte, Nat.reduceEqDiff, Nat.reduceAdd, Nat.reduceLeDiff, Nat.reduceLT, Nat.reduceSub, Nat.reduceMul, reduceCtorEq, Int.reduceEq, Int.reduceLT, Int.reduceLE, Int.reduceAdd, Int.reduceSub, Int.reduceNeg, Int.reduceToNat, undef, Value.cells, axL]; rfl) rfl ?_)
      | (with_reducible refine cond_t ?_ ?_; · simp only [Ax.ev, Ax.look, reduceIte, Nat.reduceEqDiff])
      | (with_reducible refine cond_f ?_ ?_; · simp only [Ax.ev, Ax.look, reduceIte, Nat.reduceEqDiff])
      | (with_reducible refine is_rp ?_; first | refine r_postR rfl ?_ | refine r_postR (by simp only [Ax.result, Ax.resVs, Ax.resV, R3, Ax.look, sizeN, mkV, Nat.reduceEqDiff, reduceIte, axL]; rfl) ?_)
      | (with_reducible refine is_np ?_; first | refine n_postR rfl ?_ | refine n_postR (by simp only [Ax.result, Ax.resVs, Ax.resV, R3, Ax.look, sizeN, mkV, Nat.reduceEqDiff, reduceIte, axL]; rfl) ?_)
      | (first | with_reducible refine is_wd ?_ | with_reducible refine dk_wd ?_); refine go_dt _ (by simp only [Ax.runDK, Ax.runDT, Ax.runDops, Ax.run1d, Ax.recs, Ax.okPair, Ax.idsE, Ax.idsV, AOp.mems, AOp.isWrite, DRec.none, axD, Ax.runK, Ax.runOps, Ax.run1, Ax.wantA, Ax.step, Ax.ev, Ax.evs, Ax.evo, Ax.evp, Ax.look, Ax.putE, Ax.keepE, Ax.argsE, Ax.extr, Ax.binV, Ax.intBin, Ax.unV, Ax.addOff, Ax.sizeN, Ax.mkV, Ax.okV, reduceIte, Nat.reduceEqDiff, Nat.reduceAdd, Nat.reduceLeDiff, Nat.reduceLT, Nat.reduceSub, Nat.reduceMul, reduceCtorEq, Int.reduceEq, Int.reduceLT, Int.reduceLE, Int.reduceAdd, Int.reduceSub, Int.reduceNeg, Int.reduceToNat, undef, Value.cells, axL]; rfl) rfl ?_
      | (with_reducible first | refine end_reg (Ev.mono _ _) ?_ | refine end_dreg (Ev.mono _ _) ?_ | refine end_cond (Ev.mono _ _) ?_ | refine end_block (Ev.mono _ _) ?_ | refine end_loop (Ev.mono _ _) ?_))
      rfl

end Go.Proofs.Ytboclpaokecalaa

/- Law 06: 'Due'. -/
namespace Go.Proofs.Ytboclpaokecalaa
open Go.Ax
open Go.Ax.Enc (enc)

def dueL (s : List It) (now : Int) : List It := s.takeWhile fun y => decide (y.when ≤ now)
def restL (s : List It) (now : Int) : List It := s.dropWhile fun y => decide (y.when ≤ now)

theorem due_spec (X : Nat → List Value → Option Value) {R : Nat → Option (List Value)} {F : List Asn} {S : AS} {hd : Nat} {s : List It} {sq : Int} (H : St R (HeapA hd s sq :: F) S) (hn : s.length < 1000000) (now : Int) {Q : Value → AS → Prop}
    (hq : ∀ v S', St R (SlT v ((dueL s now).map (·.x)) :: HeapA hd (restL s now) sq :: F) S' → Q v S') : Ev G X 10 [.pointer (some ⟨hd, 0, none⟩), .int .i64 now] S Q := by
  refine Ev.fnR (rs := R10) (c := A10) rfl ?_
  unfold A10
  repeat' (first
      | (with_reducible first | refine go_assoc ?_ (Ev.mono _ _) | refine go_skip ?_ | refine go_fin ?_ | refine go_ret ?_ | refine go_ret0 ?_ | refine go_exit ?_ | refine go_exit0 ?_ | refine go_block ?_ | refine n_then ?_ | refine x_then ?_ | refine r_then ?_ | refine n_block ?_ | refine r_block ?_ | refine x_block ?_ | refine x_block_ne ?_ (by decide))
      | (with_reducible refine is_k ?_; refine go_k _ (by simp only [Ax.runK, Ax.runOps, Ax.run1, Ax.wantA, Ax.step, Ax.ev, Ax.evs, Ax.evo, Ax.evp, Ax.look, Ax.putE, Ax.keepE, Ax.argsE, Ax.extr, Ax.binV, Ax.intBin, Ax.unV, Ax.addOff, Ax.sizeN, Ax.mkV, Ax.okV, reduceIte, Nat.reduceEqDiff, Nat.reduceAdd, Nat.reduceLeDiff, Nat.reduceLT, Nat.reduceSub, Nat.reduceMul, reduceCtorEq, Int.reduceEq, Int.reduceLT, Int.reduceLE, Int.reduceAdd, Int.reduceSub, Int.reduceNeg, Int.reduceToNat, undef, Value.cells, axL]; rfl) rfl ?_)
      | (with_reducible refine cond_t ?_ ?_; · simp only [Ax.ev, Ax.look, reduceIte, Nat.reduceEqDiff])
      | (with_reducible refine cond_f ?_ ?_; · simp only [Ax.ev, Ax.look, reduceIte, Nat.reduceEqDiff])
      | (with_reducible refine is_rp ?_; first | refine r_postR rfl ?_ | refine r_postR (by simp only [Ax.result, Ax.resVs, Ax.resV, R10, Ax.look, sizeN, mkV, Nat.reduceEqDiff, reduceIte, axL]; rfl) ?_)
      | (with_reducible refine is_np ?_; first | refine n_postR rfl ?_ | refine n_postR (by simp only [Ax.result, Ax.resVs, Ax.resV, R10, Ax.look, sizeN, mkV, Nat.reduceEqDiff, reduceIte, axL]; rfl) ?_)
      | (first | with_reducible refine is_wd ?_ | with_reducible refine dk_wd ?_); refine go_dt _ (by simp only [Ax.runDK, Ax.runDT, Ax.runDops, Ax.run1d, Ax.recs, Ax.okPair, Ax.idsE, Ax.idsV, AOp.mems, AOp.isWrite, DRec.none, axD, Ax.runK, Ax.runOps, Ax.run1, Ax.wantA, Ax.step, Ax.ev, Ax.evs, Ax.evo, Ax.evp, Ax.look, Ax.putE, Ax.keepE, Ax.argsE, Ax.extr, Ax.binV, Ax.intBin, Ax.unV, Ax.addOff, Ax.sizeN, Ax.mkV, Ax.okV, reduceIte, Nat.reduceEqDiff, Nat.reduceAdd, Nat.reduceLeDiff, Nat.reduceLT, Nat.reduceSub, Nat.reduceMul, reduceCtorEq, Int.reduceEq, Int.reduceLT, Int.reduceLE, Int.reduceAdd, Int.reduceSub, Int.reduceNeg, Int.reduceToNat, undef, Value.cells, axL]; rfl) rfl ?_
      | (with_reducible first | refine end_reg (Ev.mono _ _) ?_ | refine end_dreg (Ev.mono _ _) ?_ | refine end_cond (Ev.mono _ _) ?_ | refine end_block (Ev.mono _ _) ?_ | refine end_loop (Ev.mono _ _) ?_))
  have H0 := SlT.nil (α := Int) H
  refine go_loop (Ev.mono _ _) (fun (g : List It × List Int × Value) ρ S' => g.2.1 ++ (dueL g.1 now).map (·.x) = (dueL s now).map (·.x) ∧ restL g.1 now = restL s now ∧ g.2.1.length + g.1.length = s.length ∧ ρ = [(4, g.2.2), (0, .pointer (some ⟨hd, 0, none⟩)), (1, .int .i64 now)] ∧ St R (SlT g.2.2 g.2.1 :: HeapA hd g.1 sq :: F) S') (fun g => g.1.length) (s, [], .slice none 0 0) ⟨by simp, rfl, by simp, rfl, H0⟩ ?_
  rintro ⟨t, out, v⟩ ρ S1 ⟨h1, h2, h3, rfl, H1⟩
  dsimp only at h1 h2 h3 H1
  repeat' (first
      | (with_reducible first | refine go_assoc ?_ (Ev.mono _ _) | refine go_skip ?_ | refine go_fin ?_ | refine go_ret ?_ | refine go_ret0 ?_ | refine go_exit ?_ | refine go_exit0 ?_ | refine go_block ?_ | refine n_then ?_ | refine x_then ?_ | refine r_then ?_ | refine n_block ?_ | refine r_block ?_ | refine x_block ?_ | refine x_block_ne ?_ (by decide))
      | (with_reducible refine is_k ?_; refine go_k _ (by simp only [Ax.runK, Ax.runOps, Ax.run1, Ax.wantA, Ax.step, Ax.ev, Ax.evs, Ax.evo, Ax.evp, Ax.look, Ax.putE, Ax.keepE, Ax.argsE, Ax.extr, Ax.binV, Ax.intBin, Ax.unV, Ax.addOff, Ax.sizeN, Ax.mkV, Ax.okV, reduceIte, Nat.reduceEqDiff, Nat.reduceAdd, Nat.reduceLeDiff, Nat.reduceLT, Nat.reduceSub, Nat.reduceMul, reduceCtorEq, Int.reduceEq, Int.reduceLT, Int.reduceLE, Int.reduceAdd, Int.reduceSub, Int.reduceNeg, Int.reduceToNat, undef, Value.cells, axL]; rfl) rfl ?_)
      | (with_reducible refine cond_t ?_ ?_; · simp only [Ax.ev, Ax.look, reduceIte, Nat.reduceEqDiff])
      | (with_reducible refine cond_f ?_ ?_; · simp only [Ax.ev, Ax.look, reduceIte, Nat.reduceEqDiff])
      | (with_reducible refine is_rp ?_; first | refine r_postR rfl ?_ | refine r_postR (by simp only [Ax.result, Ax.resVs, Ax.resV, R10, Ax.look, sizeN, mkV, Nat.reduceEqDiff, reduceIte, axL]; rfl) ?_)
      | (with_reducible refine is_np ?_; first | refine n_postR rfl ?_ | refine n_postR (by simp only [Ax.result, Ax.resVs, Ax.resV, R10, Ax.look, sizeN, mkV, Nat.reduceEqDiff, reduceIte, axL]; rfl) ?_)
      | (first | with_reducible refine is_wd ?_ | with_reducible refine dk_wd ?_); refine go_dt _ (by simp only [Ax.runDK, Ax.runDT, Ax.runDops, Ax.run1d, Ax.recs, Ax.okPair, Ax.idsE, Ax.idsV, AOp.mems, AOp.isWrite, DRec.none, axD, Ax.runK, Ax.runOps, Ax.run1, Ax.wantA, Ax.step, Ax.ev, Ax.evs, Ax.evo, Ax.evp, Ax.look, Ax.putE, Ax.keepE, Ax.argsE, Ax.extr, Ax.binV, Ax.intBin, Ax.unV, Ax.addOff, Ax.sizeN, Ax.mkV, Ax.okV, reduceIte, Nat.reduceEqDiff, Nat.reduceAdd, Nat.reduceLeDiff, Nat.reduceLT, Nat.reduceSub, Nat.reduceMul, reduceCtorEq, Int.reduceEq, Int.reduceLT, Int.reduceLE, Int.reduceAdd, Int.reduceSub, Int.reduceNeg, Int.reduceToNat, undef, Value.cells, axL]; rfl) rfl ?_
      | (with_reducible first | refine end_reg (Ev.mono _ _) ?_ | refine end_dreg (Ev.mono _ _) ?_ | refine end_cond (Ev.mono _ _) ?_ | refine end_block (Ev.mono _ _) ?_ | refine end_loop (Ev.mono _ _) ?_))
  repeat' (with_reducible first | refine go_assoc ?_ (Ev.mono _ _) | refine go_skip ?_ | refine go_block ?_ | refine end_reg (Ev.mono _ _) ?_)
  refine go_callN 1 _ (by simp only [Ax.runN, Ax.runK, Ax.runOps, Ax.run1, Ax.wantA, Ax.step, Ax.ev, Ax.evs, Ax.evo, Ax.evp, Ax.look, Ax.putE, Ax.keepE, Ax.argsE, Ax.extr, Ax.binV, Ax.intBin, Ax.unV, Ax.addOff, Ax.sizeN, Ax.mkV, Ax.okV, reduceIte, Nat.reduceEqDiff, Nat.reduceAdd, Nat.reduceLeDiff, Nat.reduceLT, Nat.reduceSub, Nat.reduceMul, reduceCtorEq, Int.reduceEq, Int.reduceLT, Int.reduceLE, Int.reduceAdd, Int.reduceSub, Int.reduceNeg, Int.reduceToNat, undef, Value.cells, axL]; rfl) rfl rfl (by simp only [Ax.wantA, Ax.look, reduceIte, Nat.reduceEqDiff, bq_t, bq_f, Bool.not_true, Bool.not_false]; try rfl) rfl (by simp only [Ax.runK, Ax.runOps, Ax.run1, Ax.wantA, Ax.step, Ax.ev, Ax.evs, Ax.evo, Ax.evp, Ax.look, Ax.putE, Ax.keepE, Ax.argsE, Ax.extr, Ax.binV, Ax.intBin, Ax.unV, Ax.addOff, Ax.sizeN, Ax.mkV, Ax.okV, reduceIte, Nat.reduceEqDiff, Nat.reduceAdd, Nat.reduceLeDiff, Nat.reduceLT, Nat.reduceSub, Nat.reduceMul, reduceCtorEq, Int.reduceEq, Int.reduceLT, Int.reduceLE, Int.reduceAdd, Int.reduceSub, Int.reduceNeg, Int.reduceToNat, undef, Value.cells, axL]; try rfl) ?_
  refine first_spec X (H1.pick 2 [1, 0] rfl) (fun h0 => ?_) (fun a t' h0 => ?_)
  · subst h0
    repeat' (first
      | (with_reducible first | refine go_assoc ?_ (Ev.mono _ _) | refine go_skip ?_ | refine go_fin ?_ | refine go_ret ?_ | refine go_ret0 ?_ | refine go_exit ?_ | refine go_exit0 ?_ | refine go_block ?_ | refine n_then ?_ | refine x_then ?_ | refine r_then ?_ | refine n_block ?_ | refine r_block ?_ | refine x_block ?_ | refine x_block_ne ?_ (by decide))
      | (with_reducible refine is_k ?_; refine go_k _ (by simp only [Ax.runK, Ax.runOps, Ax.run1, Ax.wantA, Ax.step, Ax.ev, Ax.evs, Ax.evo, Ax.evp, Ax.look, Ax.putE, Ax.keepE, Ax.argsE, Ax.extr, Ax.binV, Ax.intBin, Ax.unV, Ax.addOff, Ax.sizeN, Ax.mkV, Ax.okV, reduceIte, Nat.reduceEqDiff, Nat.reduceAdd, Nat.reduceLeDiff, Nat.reduceLT, Nat.reduceSub, Nat.reduceMul, reduceCtorEq, Int.reduceEq, Int.reduceLT, Int.reduceLE, Int.reduceAdd, Int.reduceSub, Int.reduceNeg, Int.reduceToNat, undef, Value.cells, axL]; rfl) rfl ?_)
      | (with_reducible refine cond_t ?_ ?_; · simp only [Ax.ev, Ax.look, reduceIte, Nat.reduceEqDiff])
      | (with_reducible refine cond_f ?_ ?_; · simp only [Ax.ev, Ax.look, reduceIte, Nat.reduceEqDiff])
      | (with_reducible refine is_rp ?_; first | refine r_postR rfl ?_ | refine r_postR (by simp only [Ax.result, Ax.resVs, Ax.resV, R10, Ax.look, sizeN, mkV, Nat.reduceEqDiff, reduceIte, axL]; rfl) ?_)
      | (with_reducible refine is_np ?_; first | refine n_postR rfl ?_ | refine n_postR (by simp only [Ax.result, Ax.resVs, Ax.resV, R10, Ax.look, sizeN, mkV, Nat.reduceEqDiff, reduceIte, axL]; rfl) ?_)
      | (first | with_reducible refine is_wd ?_ | with_reducible refine dk_wd ?_); refine go_dt _ (by simp only [Ax.runDK, Ax.runDT, Ax.runDops, Ax.run1d, Ax.recs, Ax.okPair, Ax.idsE, Ax.idsV, AOp.mems, AOp.isWrite, DRec.none, axD, Ax.runK, Ax.runOps, Ax.run1, Ax.wantA, Ax.step, Ax.ev, Ax.evs, Ax.evo, Ax.evp, Ax.look, Ax.putE, Ax.keepE, Ax.argsE, Ax.extr, Ax.binV, Ax.intBin, Ax.unV, Ax.addOff, Ax.sizeN, Ax.mkV, Ax.okV, reduceIte, Nat.reduceEqDiff, Nat.reduceAdd, Nat.reduceLeDiff, Nat.reduceLT, Nat.reduceSub, Nat.reduceMul, reduceCtorEq, Int.reduceEq, Int.reduceLT, Int.reduceLE, Int.reduceAdd, Int.reduceSub, Int.reduceNeg, Int.reduceToNat, undef, Value.cells, axL]; rfl) rfl ?_
      | (with_reducible first | refine end_reg (Ev.mono _ _) ?_ | refine end_dreg (Ev.mono _ _) ?_ | refine end_cond (Ev.mono _ _) ?_ | refine end_block (Ev.mono _ _) ?_ | refine end_loop (Ev.mono _ _) ?_))
    simp only [dueL, List.takeWhile_nil, List.map_nil, List.append_nil] at h1
    have h1 : out = (dueL s now).map (·.x) := h1
    have h2 : [] = restL s now := h2
    refine hq _ _ ?_
    rw [← h1, ← h2]
    exact H1
  · subst h0
    by_cases hw : now < a.when
    · have hd1 : dueL (a :: t') now = [] := by simp [dueL, List.takeWhile_cons, show ¬ a.when ≤ now from by omega]
      have hd2 : restL (a :: t') now = a :: t' := by simp [restL, List.dropWhile_cons, show ¬ a.when ≤ now from by omega]
      repeat' (first
      | (with_reducible first | refine go_assoc ?_ (Ev.mono _ _) | refine go_skip ?_ | refine go_fin ?_ | refine go_ret ?_ | refine go_ret0 ?_ | refine go_exit ?_ | refine go_exit0 ?_ | refine go_block ?_ | refine n_then ?_ | refine x_then ?_ | refine r_then ?_ | refine n_block ?_ | refine r_block ?_ | refine x_block ?_ | refine x_block_ne ?_ (by decide))
      | (with_reducible refine is_k ?_; refine go_k _ (by simp only [Ax.runK, Ax.runOps, Ax.run1, Ax.wantA, Ax.step, Ax.ev, Ax.evs, Ax.evo, Ax.evp, Ax.look, Ax.putE, Ax.keepE, Ax.argsE, Ax.extr, Ax.binV, Ax.intBin, Ax.unV, Ax.addOff, Ax.sizeN, Ax.mkV, Ax.okV, reduceIte, Nat.reduceEqDiff, Nat.reduceAdd, Nat.reduceLeDiff, Nat.reduceLT, Nat.reduceSub, Nat.reduceMul, reduceCtorEq, Int.reduceEq, Int.reduceLT, Int.reduceLE, Int.reduceAdd, Int.reduceSub, Int.reduceNeg, Int.reduceToNat, undef, Value.cells, axL, hw]; rfl) rfl ?_)
      | (with_reducible refine cond_t ?_ ?_; · simp only [Ax.ev, Ax.look, reduceIte, Nat.reduceEqDiff])
      | (with_reducible refine cond_f ?_ ?_; · simp only [Ax.ev, Ax.look, reduceIte, Nat.reduceEqDiff])
      | (with_reducible refine is_rp ?_; first | refine r_postR rfl ?_ | refine r_postR (by simp only [Ax.result, Ax.resVs, Ax.resV, R10, Ax.look, sizeN, mkV, Nat.reduceEqDiff, reduceIte, axL, hw]; rfl) ?_)
      | (with_reducible refine is_np ?_; first | refine n_postR rfl ?_ | refine n_postR (by simp only [Ax.result, Ax.resVs, Ax.resV, R10, Ax.look, sizeN, mkV, Nat.reduceEqDiff, reduceIte, axL, hw]; rfl) ?_)
      | (first | with_reducible refine is_wd ?_ | with_reducible refine dk_wd ?_); refine go_dt _ (by simp only [Ax.runDK, Ax.runDT, Ax.runDops, Ax.run1d, Ax.recs, Ax.okPair, Ax.idsE, Ax.idsV, AOp.mems, AOp.isWrite, DRec.none, axD, Ax.runK, Ax.runOps, Ax.run1, Ax.wantA, Ax.step, Ax.ev, Ax.evs, Ax.evo, Ax.evp, Ax.look, Ax.putE, Ax.keepE, Ax.argsE, Ax.extr, Ax.binV, Ax.intBin, Ax.unV, Ax.addOff, Ax.sizeN, Ax.mkV, Ax.okV, reduceIte, Nat.reduceEqDiff, Nat.reduceAdd, Nat.reduceLeDiff, Nat.reduceLT, Nat.reduceSub, Nat.reduceMul, reduceCtorEq, Int.reduceEq, Int.reduceLT, Int.reduceLE, Int.reduceAdd, Int.reduceSub, Int.reduceNeg, Int.reduceToNat, undef, Value.cells, axL, hw]; rfl) rfl ?_
      | (with_reducible first | refine end_reg (Ev.mono _ _) ?_ | refine end_dreg (Ev.mono _ _) ?_ | refine end_cond (Ev.mono _ _) ?_ | refine end_block (Ev.mono _ _) ?_ | refine end_loop (Ev.mono _ _) ?_))
      rw [hd1] at h1
      rw [hd2] at h2
      simp only [List.map_nil, List.append_nil] at h1
      refine hq _ _ ?_
      rw [← h1, ← h2]
      exact H1
    · have hle : a.when ≤ now := by omega
      have hd1 : dueL (a :: t') now = a :: dueL t' now := by simp [dueL, hle]
      have hd2 : restL (a :: t') now = restL t' now := by simp [restL, hle]
      rw [hd1] at h1
      rw [hd2] at h2
      repeat' (first
      | (with_reducible first | refine go_assoc ?_ (Ev.mono _ _) | refine go_skip ?_ | refine go_fin ?_ | refine go_ret ?_ | refine go_ret0 ?_ | refine go_exit ?_ | refine go_exit0 ?_ | refine go_block ?_ | refine n_then ?_ | refine x_then ?_ | refine r_then ?_ | refine n_block ?_ | refine r_block ?_ | refine x_block ?_ | refine x_block_ne ?_ (by decide))
      | (with_reducible refine is_k ?_; refine go_k _ (by simp only [Ax.runK, Ax.runOps, Ax.run1, Ax.wantA, Ax.step, Ax.ev, Ax.evs, Ax.evo, Ax.evp, Ax.look, Ax.putE, Ax.keepE, Ax.argsE, Ax.extr, Ax.binV, Ax.intBin, Ax.unV, Ax.addOff, Ax.sizeN, Ax.mkV, Ax.okV, reduceIte, Nat.reduceEqDiff, Nat.reduceAdd, Nat.reduceLeDiff, Nat.reduceLT, Nat.reduceSub, Nat.reduceMul, reduceCtorEq, Int.reduceEq, Int.reduceLT, Int.reduceLE, Int.reduceAdd, Int.reduceSub, Int.reduceNeg, Int.reduceToNat, undef, Value.cells, axL, hw]; rfl) rfl ?_)
      | (with_reducible refine cond_t ?_ ?_; · simp only [Ax.ev, Ax.look, reduceIte, Nat.reduceEqDiff])
      | (with_reducible refine cond_f ?_ ?_; · simp only [Ax.ev, Ax.look, reduceIte, Nat.reduceEqDiff])
      | (with_reducible refine is_rp ?_; first | refine r_postR rfl ?_ | refine r_postR (by simp only [Ax.result, Ax.resVs, Ax.resV, R10, Ax.look, sizeN, mkV, Nat.reduceEqDiff, reduceIte, axL, hw]; rfl) ?_)
      | (with_reducible refine is_np ?_; first | refine n_postR rfl ?_ | refine n_postR (by simp only [Ax.result, Ax.resVs, Ax.resV, R10, Ax.look, sizeN, mkV, Nat.reduceEqDiff, reduceIte, axL, hw]; rfl) ?_)
      | (first | with_reducible refine is_wd ?_ | with_reducible refine dk_wd ?_); refine go_dt _ (by simp only [Ax.runDK, Ax.runDT, Ax.runDops, Ax.run1d, Ax.recs, Ax.okPair, Ax.idsE, Ax.idsV, AOp.mems, AOp.isWrite, DRec.none, axD, Ax.runK, Ax.runOps, Ax.run1, Ax.wantA, Ax.step, Ax.ev, Ax.evs, Ax.evo, Ax.evp, Ax.look, Ax.putE, Ax.keepE, Ax.argsE, Ax.extr, Ax.binV, Ax.intBin, Ax.unV, Ax.addOff, Ax.sizeN, Ax.mkV, Ax.okV, reduceIte, Nat.reduceEqDiff, Nat.reduceAdd, Nat.reduceLeDiff, Nat.reduceLT, Nat.reduceSub, Nat.reduceMul, reduceCtorEq, Int.reduceEq, Int.reduceLT, Int.reduceLE, Int.reduceAdd, Int.reduceSub, Int.reduceNeg, Int.reduceToNat, undef, Value.cells, axL, hw]; rfl) rfl ?_
      | (with_reducible first | refine end_reg (Ev.mono _ _) ?_ | refine end_dreg (Ev.mono _ _) ?_ | refine end_cond (Ev.mono _ _) ?_ | refine end_block (Ev.mono _ _) ?_ | refine end_loop (Ev.mono _ _) ?_))
      repeat' (with_reducible first | refine go_assoc ?_ (Ev.mono _ _) | refine go_skip ?_ | refine go_block ?_ | refine end_reg (Ev.mono _ _) ?_)
      refine go_callN 1 _ (by simp only [Ax.runN, Ax.runK, Ax.runOps, Ax.run1, Ax.wantA, Ax.step, Ax.ev, Ax.evs, Ax.evo, Ax.evp, Ax.look, Ax.putE, Ax.keepE, Ax.argsE, Ax.extr, Ax.binV, Ax.intBin, Ax.unV, Ax.addOff, Ax.sizeN, Ax.mkV, Ax.okV, reduceIte, Nat.reduceEqDiff, Nat.reduceAdd, Nat.reduceLeDiff, Nat.reduceLT, Nat.reduceSub, Nat.reduceMul, reduceCtorEq, Int.reduceEq, Int.reduceLT, Int.reduceLE, Int.reduceAdd, Int.reduceSub, Int.reduceNeg, Int.reduceToNat, undef, Value.cells, axL]; rfl) rfl rfl (by simp only [Ax.wantA, Ax.look, reduceIte, Nat.reduceEqDiff, bq_t, bq_f, Bool.not_true, Bool.not_false]; try rfl) rfl (by simp only [Ax.runK, Ax.runOps, Ax.run1, Ax.wantA, Ax.step, Ax.ev, Ax.evs, Ax.evo, Ax.evp, Ax.look, Ax.putE, Ax.keepE, Ax.argsE, Ax.extr, Ax.binV, Ax.intBin, Ax.unV, Ax.addOff, Ax.sizeN, Ax.mkV, Ax.okV, reduceIte, Nat.reduceEqDiff, Nat.reduceAdd, Nat.reduceLeDiff, Nat.reduceLT, Nat.reduceSub, Nat.reduceMul, reduceCtorEq, Int.reduceEq, Int.reduceLT, Int.reduceLE, Int.reduceAdd, Int.reduceSub, Int.reduceNeg, Int.reduceToNat, undef, Value.cells, axL]; try rfl) ?_
      refine pop_spec X (H1.pick 2 [1, 0] rfl) (by simp at h3 ⊢; omega) (fun h0 => by cases h0) (fun a' t'' S2 he H2 => ?_)
      cases he
      have H3 := (H2.newc [.int .i64 a.x]).pick 3 [2, 0, 1] rfl
      obtain ⟨al, ac, rfl⟩ := SlT.shape H3
      obtain ⟨v', S3, g1, H4⟩ := SlT.append H3 (bytes := 8) (m := [a.x]) (x := .slice (some ⟨S2.nx, 0, none⟩) 1 1) (src_new rfl) rfl (by simp at h3 ⊢; omega)
      repeat' (first
      | (with_reducible first | refine go_assoc ?_ (Ev.mono _ _) | refine go_skip ?_ | refine go_fin ?_ | refine go_ret ?_ | refine go_ret0 ?_ | refine go_exit ?_ | refine go_exit0 ?_ | refine go_block ?_ | refine n_then ?_ | refine x_then ?_ | refine r_then ?_ | refine n_block ?_ | refine r_block ?_ | refine x_block ?_ | refine x_block_ne ?_ (by decide))
      | (with_reducible refine is_k ?_; refine go_k _ (by simp only [Ax.runK, Ax.runOps, Ax.run1, Ax.wantA, Ax.step, Ax.ev, Ax.evs, Ax.evo, Ax.evp, Ax.look, Ax.putE, Ax.keepE, Ax.argsE, Ax.extr, Ax.binV, Ax.intBin, Ax.unV, Ax.addOff, Ax.sizeN, Ax.mkV, Ax.okV, reduceIte, Nat.reduceEqDiff, Nat.reduceAdd, Nat.reduceLeDiff, Nat.reduceLT, Nat.reduceSub, Nat.reduceMul, reduceCtorEq, Int.reduceEq, Int.reduceLT, Int.reduceLE, Int.reduceAdd, Int.reduceSub, Int.reduceNeg, Int.reduceToNat, undef, Value.cells, axL, g1]; rfl) rfl ?_)
      | (with_reducible refine cond_t ?_ ?_; · simp only [Ax.ev, Ax.look, reduceIte, Nat.reduceEqDiff])
      | (with_reducible refine cond_f ?_ ?_; · simp only [Ax.ev, Ax.look, reduceIte, Nat.reduceEqDiff])
      | (with_reducible refine is_rp ?_; first | refine r_postR rfl ?_ | refine r_postR (by simp only [Ax.result, Ax.resVs, Ax.resV, R10, Ax.look, sizeN, mkV, Nat.reduceEqDiff, reduceIte, axL, g1]; rfl) ?_)
      | (with_reducible refine is_np ?_; first | refine n_postR rfl ?_ | refine n_postR (by simp only [Ax.result, Ax.resVs, Ax.resV, R10, Ax.look, sizeN, mkV, Nat.reduceEqDiff, reduceIte, axL, g1]; rfl) ?_)
      | (first | with_reducible refine is_wd ?_ | with_reducible refine dk_wd ?_); refine go_dt _ (by simp only [Ax.runDK, Ax.runDT, Ax.runDops, Ax.run1d, Ax.recs, Ax.okPair, Ax.idsE, Ax.idsV, AOp.mems, AOp.isWrite, DRec.none, axD, Ax.runK, Ax.runOps, Ax.run1, Ax.wantA, Ax.step, Ax.ev, Ax.evs, Ax.evo, Ax.evp, Ax.look, Ax.putE, Ax.keepE, Ax.argsE, Ax.extr, Ax.binV, Ax.intBin, Ax.unV, Ax.addOff, Ax.sizeN, Ax.mkV, Ax.okV, reduceIte, Nat.reduceEqDiff, Nat.reduceAdd, Nat.reduceLeDiff, Nat.reduceLT, Nat.reduceSub, Nat.reduceMul, reduceCtorEq, Int.reduceEq, Int.reduceLT, Int.reduceLE, Int.reduceAdd, Int.reduceSub, Int.reduceNeg, Int.reduceToNat, undef, Value.cells, axL, g1]; rfl) rfl ?_
      | (with_reducible first | refine end_reg (Ev.mono _ _) ?_ | refine end_dreg (Ev.mono _ _) ?_ | refine end_cond (Ev.mono _ _) ?_ | refine end_block (Ev.mono _ _) ?_ | refine end_loop (Ev.mono _ _) ?_))
      exact ⟨(t', out ++ [a.x], v'), by simp, by simpa using h1, h2, by simp at h3 ⊢; omega, rfl, H4.pick 3 [0, 2] rfl⟩

end Go.Proofs.Ytboclpaokecalaa

/- Law 06: HeapSplits. -/
namespace Go.Proofs.Ytboclpaokecalaa
open Go.Ax
open Go.Ax.Enc (enc)

theorem due_due (lo hi : Int) (h : lo ≤ hi) : ∀ s : List It, dueL s lo ++ dueL (restL s lo) hi = dueL s hi ∧ restL (restL s lo) hi = restL s hi
  | [] => ⟨rfl, rfl⟩
  | a :: s => by
    obtain ⟨h1, h2⟩ := due_due lo hi h s
    by_cases hw : a.when ≤ lo
    · have hw2 : a.when ≤ hi := by omega
      unfold dueL restL at *
      simp only [List.takeWhile_cons, List.dropWhile_cons, hw, hw2, decide_true, if_true, List.cons_append, h1, h2, and_self]
    · unfold dueL restL at *
      simp only [List.takeWhile_cons, List.dropWhile_cons, hw, decide_false, Bool.false_eq_true, if_false, List.nil_append, and_self]

theorem due_len (s : List It) (t : Int) : (dueL s t).length + (restL s t).length = s.length := by
  have : dueL s t ++ restL s t = s := List.takeWhile_append_dropWhile
  rw [← List.length_append, this]

theorem heapSplits_law {R : Nat → Option (List Value)} {v : Value} {times : List Int} (hv : RIn R v times) (a b : Int) : Law G XL 4 [v, .int .i64 a, .int .i64 b] R := by
  intro F S H
  refine Ev.fnR (rs := R4) (c := A4) rfl ?_
  unfold A4
  obtain ⟨l, hl⟩ : ∃ l, l = times.take 100 := ⟨_, rfl⟩
  obtain ⟨v', e1, hv'⟩ := hv.slice H (lo := 0) (hi := l.length) (Nat.zero_le _) (by rw [hl]; simp; omega) none (some (.int .i64 l.length)) (.inl ⟨rfl, rfl⟩) (.inr ⟨_, rfl⟩)
  have hl' : times.take l.length = l := by rw [hl]; simp [List.take_take]
  rw [List.drop_zero, Nat.sub_zero, hl'] at hv'
  have hmin : minV (.int .i64 times.length) (.int .i64 100) = some (.int .i64 l.length) := by
    simp only [minV, hl, List.length_take]
    congr 2
    split <;> omega
  have hl100 : l.length ≤ 100 := by rw [hl]; simp; omega
  clear hl hl'
  have hvl := hv.len H
  have hvl' := hv'.len H
  repeat' (first
      | (with_reducible first | refine go_assoc ?_ (Ev.mono _ _) | refine go_skip ?_ | refine go_fin ?_ | refine go_ret ?_ | refine go_ret0 ?_ | refine go_exit ?_ | refine go_exit0 ?_ | refine go_block ?_ | refine n_then ?_ | refine x_then ?_ | refine r_then ?_ | refine n_block ?_ | refine r_block ?_ | refine x_block ?_ | refine x_block_ne ?_ (by decide))
      | (with_reducible refine is_k ?_; refine go_k _ (by simp only [Ax.runK, Ax.runOps, Ax.run1, Ax.wantA, Ax.step, Ax.ev, Ax.evs, Ax.evo, Ax.evp, Ax.look, Ax.putE, Ax.keepE, Ax.argsE, Ax.extr, Ax.binV, Ax.intBin, Ax.unV, Ax.addOff, Ax.sizeN, Ax.mkV, Ax.okV, reduceIte, Nat.reduceEqDiff, Nat.reduceAdd, Nat.reduceLeDiff, Nat.reduceLT, Nat.reduceSub, Nat.reduceMul, reduceCtorEq, Int.reduceEq, Int.reduceLT, Int.reduceLE, Int.reduceAdd, Int.reduceSub, Int.reduceNeg, Int.reduceToNat, undef, Value.cells, axL, hvl, hmin, e1, hvl']; rfl) rfl ?_)
      | (with_reducible refine cond_t ?_ ?_; · simp only [Ax.ev, Ax.look, reduceIte, Nat.reduceEqDiff])
      | (with_reducible refine cond_f ?_ ?_; · simp only [Ax.ev, Ax.look, reduceIte, Nat.reduceEqDiff])
      | (with_reducible refine is_rp ?_; first | refine r_postR rfl ?_ | refine r_postR (by simp only [Ax.result, Ax.resVs, Ax.resV, R4, Ax.look, sizeN, mkV, Nat.reduceEqDiff, reduceIte, axL, hvl, hmin, e1, hvl']; rfl) ?_)
      | (with_reducible refine is_np ?_; first | refine n_postR rfl ?_ | refine n_postR (by simp only [Ax.result, Ax.resVs, Ax.resV, R4, Ax.look, sizeN, mkV, Nat.reduceEqDiff, reduceIte, axL, hvl, hmin, e1, hvl']; rfl) ?_)
      | (first | with_reducible refine is_wd ?_ | with_reducible refine dk_wd ?_); refine go_dt _ (by simp only [Ax.runDK, Ax.runDT, Ax.runDops, Ax.run1d, Ax.recs, Ax.okPair, Ax.idsE, Ax.idsV, AOp.mems, AOp.isWrite, DRec.none, axD, Ax.runK, Ax.runOps, Ax.run1, Ax.wantA, Ax.step, Ax.ev, Ax.evs, Ax.evo, Ax.evp, Ax.look, Ax.putE, Ax.keepE, Ax.argsE, Ax.extr, Ax.binV, Ax.intBin, Ax.unV, Ax.addOff, Ax.sizeN, Ax.mkV, Ax.okV, reduceIte, Nat.reduceEqDiff, Nat.reduceAdd, Nat.reduceLeDiff, Nat.reduceLT, Nat.reduceSub, Nat.reduceMul, reduceCtorEq, Int.reduceEq, Int.reduceLT, Int.reduceLE, Int.reduceAdd, Int.reduceSub, Int.reduceNeg, Int.reduceToNat, undef, Value.cells, axL, hvl, hmin, e1, hvl']; rfl) rfl ?_
      | (with_reducible first | refine end_reg (Ev.mono _ _) ?_ | refine end_dreg (Ev.mono _ _) ?_ | refine end_cond (Ev.mono _ _) ?_ | refine end_block (Ev.mono _ _) ?_ | refine end_loop (Ev.mono _ _) ?_))
  have H1 := HeapA.empty (H.newc [.slice none 0 0, .map none, .int .i64 0])
  generalize S.nx = hg at H1
  generalize S.new (.cells false [.slice none 0 0, .map none, .int .i64 0]) = S1 at H1
  have H2 := HeapA.empty (H1.newc [.slice none 0 0, .map none, .int .i64 0])
  generalize S1.nx = hh at H2
  generalize S1.new (.cells false [.slice none 0 0, .map none, .int .i64 0]) = S2 at H2
  clear H1 H
  refine go_loop (Ev.mono _ _) (fun (k : Nat) ρ S' => k ≤ l.length ∧ ρ = [(25, .int .i64 k), (8, .pointer (some ⟨hh, 0, none⟩)), (7, .pointer (some ⟨hg, 0, none⟩)), (23, v'), (0, v'), (2, .int .i64 b), (1, .int .i64 a), (24, .int .i64 l.length)] ∧ ∃ s, Put l k s ∧ St R (HeapA hh s k :: HeapA hg s k :: F) S') (fun k => l.length - k) 0 ⟨Nat.zero_le _, rfl, [], ⟨by simp, by simp [Sorted]⟩, H2⟩ ?_
  clear H2
  rintro k ρ S2 ⟨hk, rfl, s, hs, H2⟩
  have wk : IntKind.wrap .i64 ((k : Int) + 1) = ((k + 1 : Nat) : Int) := wrapI (n := (k : Int) + 1) (by unfold I64; omega)
  repeat' (first
      | (with_reducible first | refine go_assoc ?_ (Ev.mono _ _) | refine go_skip ?_ | refine go_fin ?_ | refine go_ret ?_ | refine go_ret0 ?_ | refine go_exit ?_ | refine go_exit0 ?_ | refine go_block ?_ | refine n_then ?_ | refine x_then ?_ | refine r_then ?_ | refine n_block ?_ | refine r_block ?_ | refine x_block ?_ | refine x_block_ne ?_ (by decide))
      | (with_reducible refine is_k ?_; refine go_k _ (by simp only [Ax.runK, Ax.runOps, Ax.run1, Ax.wantA, Ax.step, Ax.ev, Ax.evs, Ax.evo, Ax.evp, Ax.look, Ax.putE, Ax.keepE, Ax.argsE, Ax.extr, Ax.binV, Ax.intBin, Ax.unV, Ax.addOff, Ax.sizeN, Ax.mkV, Ax.okV, reduceIte, Nat.reduceEqDiff, Nat.reduceAdd, Nat.reduceLeDiff, Nat.reduceLT, Nat.reduceSub, Nat.reduceMul, reduceCtorEq, Int.reduceEq, Int.reduceLT, Int.reduceLE, Int.reduceAdd, Int.reduceSub, Int.reduceNeg, Int.reduceToNat, undef, Value.cells, axL]; rfl) rfl ?_)
      | (with_reducible refine cond_t ?_ ?_; · simp only [Ax.ev, Ax.look, reduceIte, Nat.reduceEqDiff])
      | (with_reducible refine cond_f ?_ ?_; · simp only [Ax.ev, Ax.look, reduceIte, Nat.reduceEqDiff])
      | (with_reducible refine is_rp ?_; first | refine r_postR rfl ?_ | refine r_postR (by simp only [Ax.result, Ax.resVs, Ax.resV, R4, Ax.look, sizeN, mkV, Nat.reduceEqDiff, reduceIte, axL]; rfl) ?_)
      | (with_reducible refine is_np ?_; first | refine n_postR rfl ?_ | refine n_postR (by simp only [Ax.result, Ax.resVs, Ax.resV, R4, Ax.look, sizeN, mkV, Nat.reduceEqDiff, reduceIte, axL]; rfl) ?_)
      | (first | with_reducible refine is_wd ?_ | with_reducible refine dk_wd ?_); refine go_dt _ (by simp only [Ax.runDK, Ax.runDT, Ax.runDops, Ax.run1d, Ax.recs, Ax.okPair, Ax.idsE, Ax.idsV, AOp.mems, AOp.isWrite, DRec.none, axD, Ax.runK, Ax.runOps, Ax.run1, Ax.wantA, Ax.step, Ax.ev, Ax.evs, Ax.evo, Ax.evp, Ax.look, Ax.putE, Ax.keepE, Ax.argsE, Ax.extr, Ax.binV, Ax.intBin, Ax.unV, Ax.addOff, Ax.sizeN, Ax.mkV, Ax.okV, reduceIte, Nat.reduceEqDiff, Nat.reduceAdd, Nat.reduceLeDiff, Nat.reduceLT, Nat.reduceSub, Nat.reduceMul, reduceCtorEq, Int.reduceEq, Int.reduceLT, Int.reduceLE, Int.reduceAdd, Int.reduceSub, Int.reduceNeg, Int.reduceToNat, undef, Value.cells, axL]; rfl) rfl ?_
      | (with_reducible first | refine end_reg (Ev.mono _ _) ?_ | refine end_dreg (Ev.mono _ _) ?_ | refine end_cond (Ev.mono _ _) ?_ | refine end_block (Ev.mono _ _) ?_ | refine end_loop (Ev.mono _ _) ?_))
  refine cond_d rfl (fun hlt => ?_) (fun hlt => ?_)
  · have hkl : k < l.length := by omega
    obtain ⟨b, a, f1, f2, f3, f4⟩ := RdT.at (hv'.rd H2) hkl .i64
    have hlt' : ∀ y ∈ s, y.seq < (k : Int) := fun y hy => by
      obtain ⟨j, hj, rfl⟩ := hs.mem hy
      simp only [itemOf]; omega
    have hno : ¬ (k : Int) ∈ s.map (·.x) := fun hm => by
      obtain ⟨j, hj, e⟩ := (hs.x k).1 hm
      omega
    repeat' (first
      | (with_reducible first | refine go_assoc ?_ (Ev.mono _ _) | refine go_skip ?_ | refine go_fin ?_ | refine go_ret ?_ | refine go_ret0 ?_ | refine go_exit ?_ | refine go_exit0 ?_ | refine go_block ?_ | refine n_then ?_ | refine x_then ?_ | refine r_then ?_ | refine n_block ?_ | refine r_block ?_ | refine x_block ?_ | refine x_block_ne ?_ (by decide))
      | (with_reducible refine is_k ?_; refine go_k _ (by simp only [Ax.runK, Ax.runOps, Ax.run1, Ax.wantA, Ax.step, Ax.ev, Ax.evs, Ax.evo, Ax.evp, Ax.look, Ax.putE, Ax.keepE, Ax.argsE, Ax.extr, Ax.binV, Ax.intBin, Ax.unV, Ax.addOff, Ax.sizeN, Ax.mkV, Ax.okV, reduceIte, Nat.reduceEqDiff, Nat.reduceAdd, Nat.reduceLeDiff, Nat.reduceLT, Nat.reduceSub, Nat.reduceMul, reduceCtorEq, Int.reduceEq, Int.reduceLT, Int.reduceLE, Int.reduceAdd, Int.reduceSub, Int.reduceNeg, Int.reduceToNat, undef, Value.cells, axL, f1, f3]; rfl) rfl ?_)
      | (with_reducible refine cond_t ?_ ?_; · simp only [Ax.ev, Ax.look, reduceIte, Nat.reduceEqDiff])
      | (with_reducible refine cond_f ?_ ?_; · simp only [Ax.ev, Ax.look, reduceIte, Nat.reduceEqDiff])
      | (with_reducible refine is_rp ?_; first | refine r_postR rfl ?_ | refine r_postR (by simp only [Ax.result, Ax.resVs, Ax.resV, R4, Ax.look, sizeN, mkV, Nat.reduceEqDiff, reduceIte, axL, f1, f3]; rfl) ?_)
      | (with_reducible refine is_np ?_; first | refine n_postR rfl ?_ | refine n_postR (by simp only [Ax.result, Ax.resVs, Ax.resV, R4, Ax.look, sizeN, mkV, Nat.reduceEqDiff, reduceIte, axL, f1, f3]; rfl) ?_)
      | (first | with_reducible refine is_wd ?_ | with_reducible refine dk_wd ?_); refine go_dt _ (by simp only [Ax.runDK, Ax.runDT, Ax.runDops, Ax.run1d, Ax.recs, Ax.okPair, Ax.idsE, Ax.idsV, AOp.mems, AOp.isWrite, DRec.none, axD, Ax.runK, Ax.runOps, Ax.run1, Ax.wantA, Ax.step, Ax.ev, Ax.evs, Ax.evo, Ax.evp, Ax.look, Ax.putE, Ax.keepE, Ax.argsE, Ax.extr, Ax.binV, Ax.intBin, Ax.unV, Ax.addOff, Ax.sizeN, Ax.mkV, Ax.okV, reduceIte, Nat.reduceEqDiff, Nat.reduceAdd, Nat.reduceLeDiff, Nat.reduceLT, Nat.reduceSub, Nat.reduceMul, reduceCtorEq, Int.reduceEq, Int.reduceLT, Int.reduceLE, Int.reduceAdd, Int.reduceSub, Int.reduceNeg, Int.reduceToNat, undef, Value.cells, axL, f1, f3]; rfl) rfl ?_
      | (with_reducible first | refine end_reg (Ev.mono _ _) ?_ | refine end_dreg (Ev.mono _ _) ?_ | refine end_cond (Ev.mono _ _) ?_ | refine end_block (Ev.mono _ _) ?_ | refine end_loop (Ev.mono _ _) ?_))
    repeat' (with_reducible first | refine go_assoc ?_ (Ev.mono _ _) | refine go_skip ?_ | refine go_block ?_ | refine end_reg (Ev.mono _ _) ?_)
    refine go_callN 3 _ (by simp only [Ax.runN, Ax.runK, Ax.runOps, Ax.run1, Ax.wantA, Ax.step, Ax.ev, Ax.evs, Ax.evo, Ax.evp, Ax.look, Ax.putE, Ax.keepE, Ax.argsE, Ax.extr, Ax.binV, Ax.intBin, Ax.unV, Ax.addOff, Ax.sizeN, Ax.mkV, Ax.okV, reduceIte, Nat.reduceEqDiff, Nat.reduceAdd, Nat.reduceLeDiff, Nat.reduceLT, Nat.reduceSub, Nat.reduceMul, reduceCtorEq, Int.reduceEq, Int.reduceLT, Int.reduceLE, Int.reduceAdd, Int.reduceSub, Int.reduceNeg, Int.reduceToNat, undef, Value.cells, axL]; rfl) rfl rfl (by simp only [Ax.wantA, Ax.look, reduceIte, Nat.reduceEqDiff, bq_t, bq_f, Bool.not_true, Bool.not_false]; try rfl) rfl (by simp only [Ax.runK, Ax.runOps, Ax.run1, Ax.wantA, Ax.step, Ax.ev, Ax.evs, Ax.evo, Ax.evp, Ax.look, Ax.putE, Ax.keepE, Ax.argsE, Ax.extr, Ax.binV, Ax.intBin, Ax.unV, Ax.addOff, Ax.sizeN, Ax.mkV, Ax.okV, reduceIte, Nat.reduceEqDiff, Nat.reduceAdd, Nat.reduceLeDiff, Nat.reduceLT, Nat.reduceSub, Nat.reduceMul, reduceCtorEq, Int.reduceEq, Int.reduceLT, Int.reduceLE, Int.reduceAdd, Int.reduceSub, Int.reduceNeg, Int.reduceToNat, undef, Value.cells, axL]; try rfl) ?_
    refine put_spec XL (H2.pick 2 [1, 0] rfl) (by have := hs.len; omega) hlt' (by unfold I64; omega) l[k] k (fun hm => absurd hm hno) (fun _ S3 H3 => ?_)
    repeat' (first
      | (with_reducible first | refine go_assoc ?_ (Ev.mono _ _) | refine go_skip ?_ | refine go_fin ?_ | refine go_ret ?_ | refine go_ret0 ?_ | refine go_exit ?_ | refine go_exit0 ?_ | refine go_block ?_ | refine n_then ?_ | refine x_then ?_ | refine r_then ?_ | refine n_block ?_ | refine r_block ?_ | refine x_block ?_ | refine x_block_ne ?_ (by decide))
      | (with_reducible refine is_k ?_; refine go_k _ (by simp only [Ax.runK, Ax.runOps, Ax.run1, Ax.wantA, Ax.step, Ax.ev, Ax.evs, Ax.evo, Ax.evp, Ax.look, Ax.putE, Ax.keepE, Ax.argsE, Ax.extr, Ax.binV, Ax.intBin, Ax.unV, Ax.addOff, Ax.sizeN, Ax.mkV, Ax.okV, reduceIte, Nat.reduceEqDiff, Nat.reduceAdd, Nat.reduceLeDiff, Nat.reduceLT, Nat.reduceSub, Nat.reduceMul, reduceCtorEq, Int.reduceEq, Int.reduceLT, Int.reduceLE, Int.reduceAdd, Int.reduceSub, Int.reduceNeg, Int.reduceToNat, undef, Value.cells, axL]; rfl) rfl ?_)
      | (with_reducible refine cond_t ?_ ?_; · simp only [Ax.ev, Ax.look, reduceIte, Nat.reduceEqDiff])
      | (with_reducible refine cond_f ?_ ?_; · simp only [Ax.ev, Ax.look, reduceIte, Nat.reduceEqDiff])
      | (with_reducible refine is_rp ?_; first | refine r_postR rfl ?_ | refine r_postR (by simp only [Ax.result, Ax.resVs, Ax.resV, R4, Ax.look, sizeN, mkV, Nat.reduceEqDiff, reduceIte, axL]; rfl) ?_)
      | (with_reducible refine is_np ?_; first | refine n_postR rfl ?_ | refine n_postR (by simp only [Ax.result, Ax.resVs, Ax.resV, R4, Ax.look, sizeN, mkV, Nat.reduceEqDiff, reduceIte, axL]; rfl) ?_)
      | (first | with_reducible refine is_wd ?_ | with_reducible refine dk_wd ?_); refine go_dt _ (by simp only [Ax.runDK, Ax.runDT, Ax.runDops, Ax.run1d, Ax.recs, Ax.okPair, Ax.idsE, Ax.idsV, AOp.mems, AOp.isWrite, DRec.none, axD, Ax.runK, Ax.runOps, Ax.run1, Ax.wantA, Ax.step, Ax.ev, Ax.evs, Ax.evo, Ax.evp, Ax.look, Ax.putE, Ax.keepE, Ax.argsE, Ax.extr, Ax.binV, Ax.intBin, Ax.unV, Ax.addOff, Ax.sizeN, Ax.mkV, Ax.okV, reduceIte, Nat.reduceEqDiff, Nat.reduceAdd, Nat.reduceLeDiff, Nat.reduceLT, Nat.reduceSub, Nat.reduceMul, reduceCtorEq, Int.reduceEq, Int.reduceLT, Int.reduceLE, Int.reduceAdd, Int.reduceSub, Int.reduceNeg, Int.reduceToNat, undef, Value.cells, axL]; rfl) rfl ?_
      | (with_reducible first | refine end_reg (Ev.mono _ _) ?_ | refine end_dreg (Ev.mono _ _) ?_ | refine end_cond (Ev.mono _ _) ?_ | refine end_block (Ev.mono _ _) ?_ | refine end_loop (Ev.mono _ _) ?_))
    repeat' (with_reducible first | refine go_assoc ?_ (Ev.mono _ _) | refine go_skip ?_ | refine go_block ?_ | refine end_reg (Ev.mono _ _) ?_)
    refine go_callN 3 _ (by simp only [Ax.runN, Ax.runK, Ax.runOps, Ax.run1, Ax.wantA, Ax.step, Ax.ev, Ax.evs, Ax.evo, Ax.evp, Ax.look, Ax.putE, Ax.keepE, Ax.argsE, Ax.extr, Ax.binV, Ax.intBin, Ax.unV, Ax.addOff, Ax.sizeN, Ax.mkV, Ax.okV, reduceIte, Nat.reduceEqDiff, Nat.reduceAdd, Nat.reduceLeDiff, Nat.reduceLT, Nat.reduceSub, Nat.reduceMul, reduceCtorEq, Int.reduceEq, Int.reduceLT, Int.reduceLE, Int.reduceAdd, Int.reduceSub, Int.reduceNeg, Int.reduceToNat, undef, Value.cells, axL]; rfl) rfl rfl (by simp only [Ax.wantA, Ax.look, reduceIte, Nat.reduceEqDiff, bq_t, bq_f, Bool.not_true, Bool.not_false]; try rfl) rfl (by simp only [Ax.runK, Ax.runOps, Ax.run1, Ax.wantA, Ax.step, Ax.ev, Ax.evs, Ax.evo, Ax.evp, Ax.look, Ax.putE, Ax.keepE, Ax.argsE, Ax.extr, Ax.binV, Ax.intBin, Ax.unV, Ax.addOff, Ax.sizeN, Ax.mkV, Ax.okV, reduceIte, Nat.reduceEqDiff, Nat.reduceAdd, Nat.reduceLeDiff, Nat.reduceLT, Nat.reduceSub, Nat.reduceMul, reduceCtorEq, Int.reduceEq, Int.reduceLT, Int.reduceLE, Int.reduceAdd, Int.reduceSub, Int.reduceNeg, Int.reduceToNat, undef, Value.cells, axL]; try rfl) ?_
    refine put_spec XL (H3.pick 2 [1, 0] rfl) (by have := hs.len; omega) hlt' (by unfold I64; omega) l[k] k (fun hm => absurd hm hno) (fun _ S4 H4 => ?_)
    repeat' (first
      | (with_reducible first | refine go_assoc ?_ (Ev.mono _ _) | refine go_skip ?_ | refine go_fin ?_ | refine go_ret ?_ | refine go_ret0 ?_ | refine go_exit ?_ | refine go_exit0 ?_ | refine go_block ?_ | refine n_then ?_ | refine x_then ?_ | refine r_then ?_ | refine n_block ?_ | refine r_block ?_ | refine x_block ?_ | refine x_block_ne ?_ (by decide))
      | (with_reducible refine is_k ?_; refine go_k _ (by simp only [Ax.runK, Ax.runOps, Ax.run1, Ax.wantA, Ax.step, Ax.ev, Ax.evs, Ax.evo, Ax.evp, Ax.look, Ax.putE, Ax.keepE, Ax.argsE, Ax.extr, Ax.binV, Ax.intBin, Ax.unV, Ax.addOff, Ax.sizeN, Ax.mkV, Ax.okV, reduceIte, Nat.reduceEqDiff, Nat.reduceAdd, Nat.reduceLeDiff, Nat.reduceLT, Nat.reduceSub, Nat.reduceMul, reduceCtorEq, Int.reduceEq, Int.reduceLT, Int.reduceLE, Int.reduceAdd, Int.reduceSub, Int.reduceNeg, Int.reduceToNat, undef, Value.cells, axL, wk]; rfl) rfl ?_)
      | (with_reducible refine cond_t ?_ ?_; · simp only [Ax.ev, Ax.look, reduceIte, Nat.reduceEqDiff])
      | (with_reducible refine cond_f ?_ ?_; · simp only [Ax.ev, Ax.look, reduceIte, Nat.reduceEqDiff])
      | (with_reducible refine is_rp ?_; first | refine r_postR rfl ?_ | refine r_postR (by simp only [Ax.result, Ax.resVs, Ax.resV, R4, Ax.look, sizeN, mkV, Nat.reduceEqDiff, reduceIte, axL, wk]; rfl) ?_)
      | (with_reducible refine is_np ?_; first | refine n_postR rfl ?_ | refine n_postR (by simp only [Ax.result, Ax.resVs, Ax.resV, R4, Ax.look, sizeN, mkV, Nat.reduceEqDiff, reduceIte, axL, wk]; rfl) ?_)
      | (first | with_reducible refine is_wd ?_ | with_reducible refine dk_wd ?_); refine go_dt _ (by simp only [Ax.runDK, Ax.runDT, Ax.runDops, Ax.run1d, Ax.recs, Ax.okPair, Ax.idsE, Ax.idsV, AOp.mems, AOp.isWrite, DRec.none, axD, Ax.runK, Ax.runOps, Ax.run1, Ax.wantA, Ax.step, Ax.ev, Ax.evs, Ax.evo, Ax.evp, Ax.look, Ax.putE, Ax.keepE, Ax.argsE, Ax.extr, Ax.binV, Ax.intBin, Ax.unV, Ax.addOff, Ax.sizeN, Ax.mkV, Ax.okV, reduceIte, Nat.reduceEqDiff, Nat.reduceAdd, Nat.reduceLeDiff, Nat.reduceLT, Nat.reduceSub, Nat.reduceMul, reduceCtorEq, Int.reduceEq, Int.reduceLT, Int.reduceLE, Int.reduceAdd, Int.reduceSub, Int.reduceNeg, Int.reduceToNat, undef, Value.cells, axL, wk]; rfl) rfl ?_
      | (with_reducible first | refine end_reg (Ev.mono _ _) ?_ | refine end_dreg (Ev.mono _ _) ?_ | refine end_cond (Ev.mono _ _) ?_ | refine end_block (Ev.mono _ _) ?_ | refine end_loop (Ev.mono _ _) ?_))
    exact ⟨k + 1, by omega, hkl, rfl, _, hs.step l[k] (by simp [hkl]), H4⟩
  · have hkn : k = l.length := by omega
    subst hkn
    have hsl := hs.len
    obtain ⟨lo, hlo⟩ : ∃ lo : Int, lo = if b < a then b else a := ⟨_, rfl⟩
    obtain ⟨hi, hhi⟩ : ∃ hi : Int, hi = if b > a then b else a := ⟨_, rfl⟩
    have hle : lo ≤ hi := by rw [hlo, hhi]; split <;> split <;> omega
    have m1 : minV (.int .i64 a) (.int .i64 b) = some (.int .i64 lo) := by rw [hlo]; rfl
    have m2 : maxV (.int .i64 a) (.int .i64 b) = some (.int .i64 hi) := by rw [hhi]; rfl
    obtain ⟨d1, d2⟩ := due_due lo hi hle s
    have d3 := due_len s hi
    have d4 := due_len s lo
    have d5 := congrArg List.length d1
    rw [List.length_append] at d5
    repeat' (first
      | (with_reducible first | refine go_assoc ?_ (Ev.mono _ _) | refine go_skip ?_ | refine go_fin ?_ | refine go_ret ?_ | refine go_ret0 ?_ | refine go_exit ?_ | refine go_exit0 ?_ | refine go_block ?_ | refine n_then ?_ | refine x_then ?_ | refine r_then ?_ | refine n_block ?_ | refine r_block ?_ | refine x_block ?_ | refine x_block_ne ?_ (by decide))
      | (with_reducible refine is_k ?_; refine go_k _ (by simp only [Ax.runK, Ax.runOps, Ax.run1, Ax.wantA, Ax.step, Ax.ev, Ax.evs, Ax.evo, Ax.evp, Ax.look, Ax.putE, Ax.keepE, Ax.argsE, Ax.extr, Ax.binV, Ax.intBin, Ax.unV, Ax.addOff, Ax.sizeN, Ax.mkV, Ax.okV, reduceIte, Nat.reduceEqDiff, Nat.reduceAdd, Nat.reduceLeDiff, Nat.reduceLT, Nat.reduceSub, Nat.reduceMul, reduceCtorEq, Int.reduceEq, Int.reduceLT, Int.reduceLE, Int.reduceAdd, Int.reduceSub, Int.reduceNeg, Int.reduceToNat, undef, Value.cells, axL]; rfl) rfl ?_)
      | (with_reducible refine cond_t ?_ ?_; · simp only [Ax.ev, Ax.look, reduceIte, Nat.reduceEqDiff])
      | (with_reducible refine cond_f ?_ ?_; · simp only [Ax.ev, Ax.look, reduceIte, Nat.reduceEqDiff])
      | (with_reducible refine is_rp ?_; first | refine r_postR rfl ?_ | refine r_postR (by simp only [Ax.result, Ax.resVs, Ax.resV, R4, Ax.look, sizeN, mkV, Nat.reduceEqDiff, reduceIte, axL]; rfl) ?_)
      | (with_reducible refine is_np ?_; first | refine n_postR rfl ?_ | refine n_postR (by simp only [Ax.result, Ax.resVs, Ax.resV, R4, Ax.look, sizeN, mkV, Nat.reduceEqDiff, reduceIte, axL]; rfl) ?_)
      | (first | with_reducible refine is_wd ?_ | with_reducible refine dk_wd ?_); refine go_dt _ (by simp only [Ax.runDK, Ax.runDT, Ax.runDops, Ax.run1d, Ax.recs, Ax.okPair, Ax.idsE, Ax.idsV, AOp.mems, AOp.isWrite, DRec.none, axD, Ax.runK, Ax.runOps, Ax.run1, Ax.wantA, Ax.step, Ax.ev, Ax.evs, Ax.evo, Ax.evp, Ax.look, Ax.putE, Ax.keepE, Ax.argsE, Ax.extr, Ax.binV, Ax.intBin, Ax.unV, Ax.addOff, Ax.sizeN, Ax.mkV, Ax.okV, reduceIte, Nat.reduceEqDiff, Nat.reduceAdd, Nat.reduceLeDiff, Nat.reduceLT, Nat.reduceSub, Nat.reduceMul, reduceCtorEq, Int.reduceEq, Int.reduceLT, Int.reduceLE, Int.reduceAdd, Int.reduceSub, Int.reduceNeg, Int.reduceToNat, undef, Value.cells, axL]; rfl) rfl ?_
      | (with_reducible first | refine end_reg (Ev.mono _ _) ?_ | refine end_dreg (Ev.mono _ _) ?_ | refine end_cond (Ev.mono _ _) ?_ | refine end_block (Ev.mono _ _) ?_ | refine end_loop (Ev.mono _ _) ?_))
    repeat' (with_reducible first | refine go_assoc ?_ (Ev.mono _ _) | refine go_skip ?_ | refine go_block ?_ | refine end_reg (Ev.mono _ _) ?_)
    refine go_callN 4 _ (by simp only [Ax.runN, Ax.runK, Ax.runOps, Ax.run1, Ax.wantA, Ax.step, Ax.ev, Ax.evs, Ax.evo, Ax.evp, Ax.look, Ax.putE, Ax.keepE, Ax.argsE, Ax.extr, Ax.binV, Ax.intBin, Ax.unV, Ax.addOff, Ax.sizeN, Ax.mkV, Ax.okV, reduceIte, Nat.reduceEqDiff, Nat.reduceAdd, Nat.reduceLeDiff, Nat.reduceLT, Nat.reduceSub, Nat.reduceMul, reduceCtorEq, Int.reduceEq, Int.reduceLT, Int.reduceLE, Int.reduceAdd, Int.reduceSub, Int.reduceNeg, Int.reduceToNat, undef, Value.cells, axL, m1]; rfl) rfl rfl (by simp only [Ax.wantA, Ax.look, reduceIte, Nat.reduceEqDiff, bq_t, bq_f, Bool.not_true, Bool.not_false]; try rfl) rfl (by simp only [Ax.runK, Ax.runOps, Ax.run1, Ax.wantA, Ax.step, Ax.ev, Ax.evs, Ax.evo, Ax.evp, Ax.look, Ax.putE, Ax.keepE, Ax.argsE, Ax.extr, Ax.binV, Ax.intBin, Ax.unV, Ax.addOff, Ax.sizeN, Ax.mkV, Ax.okV, reduceIte, Nat.reduceEqDiff, Nat.reduceAdd, Nat.reduceLeDiff, Nat.reduceLT, Nat.reduceSub, Nat.reduceMul, reduceCtorEq, Int.reduceEq, Int.reduceLT, Int.reduceLE, Int.reduceAdd, Int.reduceSub, Int.reduceNeg, Int.reduceToNat, undef, Value.cells, axL, m1]; try rfl) ?_
    refine due_spec XL (H2.pick 2 [1, 0] rfl) (by omega) lo (fun v1 S3 H3 => ?_)
    repeat' (with_reducible first | refine go_assoc ?_ (Ev.mono _ _) | refine go_skip ?_ | refine go_block ?_ | refine end_reg (Ev.mono _ _) ?_)
    refine go_callN 4 _ (by simp only [Ax.runN, Ax.runK, Ax.runOps, Ax.run1, Ax.wantA, Ax.step, Ax.ev, Ax.evs, Ax.evo, Ax.evp, Ax.look, Ax.putE, Ax.keepE, Ax.argsE, Ax.extr, Ax.binV, Ax.intBin, Ax.unV, Ax.addOff, Ax.sizeN, Ax.mkV, Ax.okV, reduceIte, Nat.reduceEqDiff, Nat.reduceAdd, Nat.reduceLeDiff, Nat.reduceLT, Nat.reduceSub, Nat.reduceMul, reduceCtorEq, Int.reduceEq, Int.reduceLT, Int.reduceLE, Int.reduceAdd, Int.reduceSub, Int.reduceNeg, Int.reduceToNat, undef, Value.cells, axL, m2]; rfl) rfl rfl (by simp only [Ax.wantA, Ax.look, reduceIte, Nat.reduceEqDiff, bq_t, bq_f, Bool.not_true, Bool.not_false]; try rfl) rfl (by simp only [Ax.runK, Ax.runOps, Ax.run1, Ax.wantA, Ax.step, Ax.ev, Ax.evs, Ax.evo, Ax.evp, Ax.look, Ax.putE, Ax.keepE, Ax.argsE, Ax.extr, Ax.binV, Ax.intBin, Ax.unV, Ax.addOff, Ax.sizeN, Ax.mkV, Ax.okV, reduceIte, Nat.reduceEqDiff, Nat.reduceAdd, Nat.reduceLeDiff, Nat.reduceLT, Nat.reduceSub, Nat.reduceMul, reduceCtorEq, Int.reduceEq, Int.reduceLT, Int.reduceLE, Int.reduceAdd, Int.reduceSub, Int.reduceNeg, Int.reduceToNat, undef, Value.cells, axL, m2]; try rfl) ?_
    refine due_spec XL (H3.pick 3 [1, 0, 2] rfl) (by omega) hi (fun v2 S4 H4 => ?_)
    obtain ⟨al, ac, rfl⟩ := SlT.shape (H4.pick 3 [2] rfl)
    obtain ⟨al2, ac2, rfl⟩ := SlT.shape H4
    obtain ⟨v3, S5, g1, H5⟩ := SlT.append (H4.pick 3 [2, 0, 1] rfl) (bytes := 8) (m := (dueL (restL s lo) hi).map (·.x)) (x := .slice al2 ((dueL (restL s lo) hi).map (·.x)).length ac2) (Rd.src (SlT.read H4)) rfl (by simp; omega)
    rw [← List.map_append, d1, d2] at H5
    repeat' (first
      | (with_reducible first | refine go_assoc ?_ (Ev.mono _ _) | refine go_skip ?_ | refine go_fin ?_ | refine go_ret ?_ | refine go_ret0 ?_ | refine go_exit ?_ | refine go_exit0 ?_ | refine go_block ?_ | refine n_then ?_ | refine x_then ?_ | refine r_then ?_ | refine n_block ?_ | refine r_block ?_ | refine x_block ?_ | refine x_block_ne ?_ (by decide))
      | (with_reducible refine is_k ?_; refine go_k _ (by simp only [Ax.runK, Ax.runOps, Ax.run1, Ax.wantA, Ax.step, Ax.ev, Ax.evs, Ax.evo, Ax.evp, Ax.look, Ax.putE, Ax.keepE, Ax.argsE, Ax.extr, Ax.binV, Ax.intBin, Ax.unV, Ax.addOff, Ax.sizeN, Ax.mkV, Ax.okV, reduceIte, Nat.reduceEqDiff, Nat.reduceAdd, Nat.reduceLeDiff, Nat.reduceLT, Nat.reduceSub, Nat.reduceMul, reduceCtorEq, Int.reduceEq, Int.reduceLT, Int.reduceLE, Int.reduceAdd, Int.reduceSub, Int.reduceNeg, Int.reduceToNat, undef, Value.cells, axL, g1]; rfl) rfl ?_)
      | (with_reducible refine cond_t ?_ ?_; · simp only [Ax.ev, Ax.look, reduceIte, Nat.reduceEqDiff])
      | (with_reducible refine cond_f ?_ ?_; · simp only [Ax.ev, Ax.look, reduceIte, Nat.reduceEqDiff])
      | (with_reducible refine is_rp ?_; first | refine r_postR rfl ?_ | refine r_postR (by simp only [Ax.result, Ax.resVs, Ax.resV, R4, Ax.look, sizeN, mkV, Nat.reduceEqDiff, reduceIte, axL, g1]; rfl) ?_)
      | (with_reducible refine is_np ?_; first | refine n_postR rfl ?_ | refine n_postR (by simp only [Ax.result, Ax.resVs, Ax.resV, R4, Ax.look, sizeN, mkV, Nat.reduceEqDiff, reduceIte, axL, g1]; rfl) ?_)
      | (first | with_reducible refine is_wd ?_ | with_reducible refine dk_wd ?_); refine go_dt _ (by simp only [Ax.runDK, Ax.runDT, Ax.runDops, Ax.run1d, Ax.recs, Ax.okPair, Ax.idsE, Ax.idsV, AOp.mems, AOp.isWrite, DRec.none, axD, Ax.runK, Ax.runOps, Ax.run1, Ax.wantA, Ax.step, Ax.ev, Ax.evs, Ax.evo, Ax.evp, Ax.look, Ax.putE, Ax.keepE, Ax.argsE, Ax.extr, Ax.binV, Ax.intBin, Ax.unV, Ax.addOff, Ax.sizeN, Ax.mkV, Ax.okV, reduceIte, Nat.reduceEqDiff, Nat.reduceAdd, Nat.reduceLeDiff, Nat.reduceLT, Nat.reduceSub, Nat.reduceMul, reduceCtorEq, Int.reduceEq, Int.reduceLT, Int.reduceLE, Int.reduceAdd, Int.reduceSub, Int.reduceNeg, Int.reduceToNat, undef, Value.cells, axL, g1]; rfl) rfl ?_
      | (with_reducible first | refine end_reg (Ev.mono _ _) ?_ | refine end_dreg (Ev.mono _ _) ?_ | refine end_cond (Ev.mono _ _) ?_ | refine end_block (Ev.mono _ _) ?_ | refine end_loop (Ev.mono _ _) ?_))
    repeat' (with_reducible first | refine go_assoc ?_ (Ev.mono _ _) | refine go_skip ?_ | refine go_block ?_ | refine end_reg (Ev.mono _ _) ?_)
    refine go_callN 4 _ (by simp only [Ax.runN, Ax.runK, Ax.runOps, Ax.run1, Ax.wantA, Ax.step, Ax.ev, Ax.evs, Ax.evo, Ax.evp, Ax.look, Ax.putE, Ax.keepE, Ax.argsE, Ax.extr, Ax.binV, Ax.intBin, Ax.unV, Ax.addOff, Ax.sizeN, Ax.mkV, Ax.okV, reduceIte, Nat.reduceEqDiff, Nat.reduceAdd, Nat.reduceLeDiff, Nat.reduceLT, Nat.reduceSub, Nat.reduceMul, reduceCtorEq, Int.reduceEq, Int.reduceLT, Int.reduceLE, Int.reduceAdd, Int.reduceSub, Int.reduceNeg, Int.reduceToNat, undef, Value.cells, axL, m2]; rfl) rfl rfl (by simp only [Ax.wantA, Ax.look, reduceIte, Nat.reduceEqDiff, bq_t, bq_f, Bool.not_true, Bool.not_false]; try rfl) rfl (by simp only [Ax.runK, Ax.runOps, Ax.run1, Ax.wantA, Ax.step, Ax.ev, Ax.evs, Ax.evo, Ax.evp, Ax.look, Ax.putE, Ax.keepE, Ax.argsE, Ax.extr, Ax.binV, Ax.intBin, Ax.unV, Ax.addOff, Ax.sizeN, Ax.mkV, Ax.okV, reduceIte, Nat.reduceEqDiff, Nat.reduceAdd, Nat.reduceLeDiff, Nat.reduceLT, Nat.reduceSub, Nat.reduceMul, reduceCtorEq, Int.reduceEq, Int.reduceLT, Int.reduceLE, Int.reduceAdd, Int.reduceSub, Int.reduceNeg, Int.reduceToNat, undef, Value.cells, axL, m2]; try rfl) ?_
    refine due_spec XL (H5.pick 4 [3, 0, 2] rfl) (by omega) hi (fun v4 S6 H6 => ?_)
    have n1 := SlT.len (H6.pick 3 [2] rfl)
    have n2 := SlT.len (H6.pick 3 [0] rfl)
    obtain ⟨ds, hds⟩ : ∃ ds, ds = (dueL s hi).map (·.x) := ⟨_, rfl⟩
    have hdl : ds.length = (dueL s hi).length := by rw [hds]; simp
    rw [← hds] at H6 n1 n2
    have wd : IntKind.wrap .i64 ((ds.length : Int) + ((restL s hi).length : Int)) = ((l.length : Nat) : Int) := by
      have : (ds.length : Int) + ((restL s hi).length : Int) = ((l.length : Nat) : Int) := by omega
      rw [this]; exact wrapI (by unfold I64; omega)
    repeat' (first
      | (with_reducible first | refine go_assoc ?_ (Ev.mono _ _) | refine go_skip ?_ | refine go_fin ?_ | refine go_ret ?_ | refine go_ret0 ?_ | refine go_exit ?_ | refine go_exit0 ?_ | refine go_block ?_ | refine n_then ?_ | refine x_then ?_ | refine r_then ?_ | refine n_block ?_ | refine r_block ?_ | refine x_block ?_ | refine x_block_ne ?_ (by decide))
      | (with_reducible refine is_k ?_; refine go_k _ (by simp only [Ax.runK, Ax.runOps, Ax.run1, Ax.wantA, Ax.step, Ax.ev, Ax.evs, Ax.evo, Ax.evp, Ax.look, Ax.putE, Ax.keepE, Ax.argsE, Ax.extr, Ax.binV, Ax.intBin, Ax.unV, Ax.addOff, Ax.sizeN, Ax.mkV, Ax.okV, reduceIte, Nat.reduceEqDiff, Nat.reduceAdd, Nat.reduceLeDiff, Nat.reduceLT, Nat.reduceSub, Nat.reduceMul, reduceCtorEq, Int.reduceEq, Int.reduceLT, Int.reduceLE, Int.reduceAdd, Int.reduceSub, Int.reduceNeg, Int.reduceToNat, undef, Value.cells, axL]; rfl) rfl ?_)
      | (with_reducible refine cond_t ?_ ?_; · simp only [Ax.ev, Ax.look, reduceIte, Nat.reduceEqDiff])
      | (with_reducible refine cond_f ?_ ?_; · simp only [Ax.ev, Ax.look, reduceIte, Nat.reduceEqDiff])
      | (with_reducible refine is_rp ?_; first | refine r_postR rfl ?_ | refine r_postR (by simp only [Ax.result, Ax.resVs, Ax.resV, R4, Ax.look, sizeN, mkV, Nat.reduceEqDiff, reduceIte, axL]; rfl) ?_)
      | (with_reducible refine is_np ?_; first | refine n_postR rfl ?_ | refine n_postR (by simp only [Ax.result, Ax.resVs, Ax.resV, R4, Ax.look, sizeN, mkV, Nat.reduceEqDiff, reduceIte, axL]; rfl) ?_)
      | (first | with_reducible refine is_wd ?_ | with_reducible refine dk_wd ?_); refine go_dt _ (by simp only [Ax.runDK, Ax.runDT, Ax.runDops, Ax.run1d, Ax.recs, Ax.okPair, Ax.idsE, Ax.idsV, AOp.mems, AOp.isWrite, DRec.none, axD, Ax.runK, Ax.runOps, Ax.run1, Ax.wantA, Ax.step, Ax.ev, Ax.evs, Ax.evo, Ax.evp, Ax.look, Ax.putE, Ax.keepE, Ax.argsE, Ax.extr, Ax.binV, Ax.intBin, Ax.unV, Ax.addOff, Ax.sizeN, Ax.mkV, Ax.okV, reduceIte, Nat.reduceEqDiff, Nat.reduceAdd, Nat.reduceLeDiff, Nat.reduceLT, Nat.reduceSub, Nat.reduceMul, reduceCtorEq, Int.reduceEq, Int.reduceLT, Int.reduceLE, Int.reduceAdd, Int.reduceSub, Int.reduceNeg, Int.reduceToNat, undef, Value.cells, axL]; rfl) rfl ?_
      | (with_reducible first | refine end_reg (Ev.mono _ _) ?_ | refine end_dreg (Ev.mono _ _) ?_ | refine end_cond (Ev.mono _ _) ?_ | refine end_block (Ev.mono _ _) ?_ | refine end_loop (Ev.mono _ _) ?_))
    repeat' (with_reducible first | refine go_assoc ?_ (Ev.mono _ _) | refine go_skip ?_ | refine go_block ?_ | refine end_reg (Ev.mono _ _) ?_)
    refine go_callN 7 _ (by simp only [Ax.runN, Ax.runK, Ax.runOps, Ax.run1, Ax.wantA, Ax.step, Ax.ev, Ax.evs, Ax.evo, Ax.evp, Ax.look, Ax.putE, Ax.keepE, Ax.argsE, Ax.extr, Ax.binV, Ax.intBin, Ax.unV, Ax.addOff, Ax.sizeN, Ax.mkV, Ax.okV, reduceIte, Nat.reduceEqDiff, Nat.reduceAdd, Nat.reduceLeDiff, Nat.reduceLT, Nat.reduceSub, Nat.reduceMul, reduceCtorEq, Int.reduceEq, Int.reduceLT, Int.reduceLE, Int.reduceAdd, Int.reduceSub, Int.reduceNeg, Int.reduceToNat, undef, Value.cells, axL, n1, n2]; rfl) rfl rfl (by simp only [Ax.wantA, Ax.look, reduceIte, Nat.reduceEqDiff, bq_t, bq_f, Bool.not_true, Bool.not_false]; try rfl) rfl (by simp only [Ax.runK, Ax.runOps, Ax.run1, Ax.wantA, Ax.step, Ax.ev, Ax.evs, Ax.evo, Ax.evp, Ax.look, Ax.putE, Ax.keepE, Ax.argsE, Ax.extr, Ax.binV, Ax.intBin, Ax.unV, Ax.addOff, Ax.sizeN, Ax.mkV, Ax.okV, reduceIte, Nat.reduceEqDiff, Nat.reduceAdd, Nat.reduceLeDiff, Nat.reduceLT, Nat.reduceSub, Nat.reduceMul, reduceCtorEq, Int.reduceEq, Int.reduceLT, Int.reduceLE, Int.reduceAdd, Int.reduceSub, Int.reduceNeg, Int.reduceToNat, undef, Value.cells, axL, n1, n2]; try rfl) ?_
    refine len_spec XL (H6.pick 4 [3] rfl) ?_
    repeat' (with_reducible first | refine go_assoc ?_ (Ev.mono _ _) | refine go_skip ?_ | refine go_block ?_ | refine end_reg (Ev.mono _ _) ?_)
    refine go_callN 1 _ (by simp only [Ax.runN, Ax.runK, Ax.runOps, Ax.run1, Ax.wantA, Ax.step, Ax.ev, Ax.evs, Ax.evo, Ax.evp, Ax.look, Ax.putE, Ax.keepE, Ax.argsE, Ax.extr, Ax.binV, Ax.intBin, Ax.unV, Ax.addOff, Ax.sizeN, Ax.mkV, Ax.okV, reduceIte, Nat.reduceEqDiff, Nat.reduceAdd, Nat.reduceLeDiff, Nat.reduceLT, Nat.reduceSub, Nat.reduceMul, reduceCtorEq, Int.reduceEq, Int.reduceLT, Int.reduceLE, Int.reduceAdd, Int.reduceSub, Int.reduceNeg, Int.reduceToNat, undef, Value.cells, axL]; rfl) rfl rfl (by simp only [Ax.wantA, Ax.look, reduceIte, Nat.reduceEqDiff, bq_t, bq_f, Bool.not_true, Bool.not_false]; try rfl) rfl (by simp only [Ax.runK, Ax.runOps, Ax.run1, Ax.wantA, Ax.step, Ax.ev, Ax.evs, Ax.evo, Ax.evp, Ax.look, Ax.putE, Ax.keepE, Ax.argsE, Ax.extr, Ax.binV, Ax.intBin, Ax.unV, Ax.addOff, Ax.sizeN, Ax.mkV, Ax.okV, reduceIte, Nat.reduceEqDiff, Nat.reduceAdd, Nat.reduceLeDiff, Nat.reduceLT, Nat.reduceSub, Nat.reduceMul, reduceCtorEq, Int.reduceEq, Int.reduceLT, Int.reduceLE, Int.reduceAdd, Int.reduceSub, Int.reduceNeg, Int.reduceToNat, undef, Value.cells, axL]; try rfl) ?_
    refine len_spec XL (H6.pick 4 [1] rfl) ?_
    repeat' (with_reducible first | refine go_assoc ?_ (Ev.mono _ _) | refine go_skip ?_ | refine go_block ?_ | refine end_reg (Ev.mono _ _) ?_)
    refine go_callN 6 _ (by simp only [Ax.runN, Ax.runK, Ax.runOps, Ax.run1, Ax.wantA, Ax.step, Ax.ev, Ax.evs, Ax.evo, Ax.evp, Ax.look, Ax.putE, Ax.keepE, Ax.argsE, Ax.extr, Ax.binV, Ax.intBin, Ax.unV, Ax.addOff, Ax.sizeN, Ax.mkV, Ax.okV, reduceIte, Nat.reduceEqDiff, Nat.reduceAdd, Nat.reduceLeDiff, Nat.reduceLT, Nat.reduceSub, Nat.reduceMul, reduceCtorEq, Int.reduceEq, Int.reduceLT, Int.reduceLE, Int.reduceAdd, Int.reduceSub, Int.reduceNeg, Int.reduceToNat, undef, Value.cells, axL, n2]; rfl) rfl rfl (by simp only [Ax.wantA, Ax.look, reduceIte, Nat.reduceEqDiff, bq_t, bq_f, Bool.not_true, Bool.not_false]; try rfl) rfl (by simp only [Ax.runK, Ax.runOps, Ax.run1, Ax.wantA, Ax.step, Ax.ev, Ax.evs, Ax.evo, Ax.evp, Ax.look, Ax.putE, Ax.keepE, Ax.argsE, Ax.extr, Ax.binV, Ax.intBin, Ax.unV, Ax.addOff, Ax.sizeN, Ax.mkV, Ax.okV, reduceIte, Nat.reduceEqDiff, Nat.reduceAdd, Nat.reduceLeDiff, Nat.reduceLT, Nat.reduceSub, Nat.reduceMul, reduceCtorEq, Int.reduceEq, Int.reduceLT, Int.reduceLE, Int.reduceAdd, Int.reduceSub, Int.reduceNeg, Int.reduceToNat, undef, Value.cells, axL, n2]; try rfl) ?_
    refine len_spec XL (H6.pick 4 [1] rfl) ?_
    repeat' (first
      | (with_reducible first | refine go_assoc ?_ (Ev.mono _ _) | refine go_skip ?_ | refine go_fin ?_ | refine go_ret ?_ | refine go_ret0 ?_ | refine go_exit ?_ | refine go_exit0 ?_ | refine go_block ?_ | refine n_then ?_ | refine x_then ?_ | refine r_then ?_ | refine n_block ?_ | refine r_block ?_ | refine x_block ?_ | refine x_block_ne ?_ (by decide))
      | (with_reducible refine is_k ?_; refine go_k _ (by simp only [Ax.runK, Ax.runOps, Ax.run1, Ax.wantA, Ax.step, Ax.ev, Ax.evs, Ax.evo, Ax.evp, Ax.look, Ax.putE, Ax.keepE, Ax.argsE, Ax.extr, Ax.binV, Ax.intBin, Ax.unV, Ax.addOff, Ax.sizeN, Ax.mkV, Ax.okV, reduceIte, Nat.reduceEqDiff, Nat.reduceAdd, Nat.reduceLeDiff, Nat.reduceLT, Nat.reduceSub, Nat.reduceMul, reduceCtorEq, Int.reduceEq, Int.reduceLT, Int.reduceLE, Int.reduceAdd, Int.reduceSub, Int.reduceNeg, Int.reduceToNat, undef, Value.cells, axL, wd, hvl', n1]; rfl) rfl ?_)
      | (with_reducible refine cond_t ?_ ?_; · simp only [Ax.ev, Ax.look, reduceIte, Nat.reduceEqDiff])
      | (with_reducible refine cond_f ?_ ?_; · simp only [Ax.ev, Ax.look, reduceIte, Nat.reduceEqDiff])
      | (with_reducible refine is_rp ?_; first | refine r_postR rfl ?_ | refine r_postR (by simp only [Ax.result, Ax.resVs, Ax.resV, R4, Ax.look, sizeN, mkV, Nat.reduceEqDiff, reduceIte, axL, wd, hvl', n1]; rfl) ?_)
      | (with_reducible refine is_np ?_; first | refine n_postR rfl ?_ | refine n_postR (by simp only [Ax.result, Ax.resVs, Ax.resV, R4, Ax.look, sizeN, mkV, Nat.reduceEqDiff, reduceIte, axL, wd, hvl', n1]; rfl) ?_)
      | (first | with_reducible refine is_wd ?_ | with_reducible refine dk_wd ?_); refine go_dt _ (by simp only [Ax.runDK, Ax.runDT, Ax.runDops, Ax.run1d, Ax.recs, Ax.okPair, Ax.idsE, Ax.idsV, AOp.mems, AOp.isWrite, DRec.none, axD, Ax.runK, Ax.runOps, Ax.run1, Ax.wantA, Ax.step, Ax.ev, Ax.evs, Ax.evo, Ax.evp, Ax.look, Ax.putE, Ax.keepE, Ax.argsE, Ax.extr, Ax.binV, Ax.intBin, Ax.unV, Ax.addOff, Ax.sizeN, Ax.mkV, Ax.okV, reduceIte, Nat.reduceEqDiff, Nat.reduceAdd, Nat.reduceLeDiff, Nat.reduceLT, Nat.reduceSub, Nat.reduceMul, reduceCtorEq, Int.reduceEq, Int.reduceLT, Int.reduceLE, Int.reduceAdd, Int.reduceSub, Int.reduceNeg, Int.reduceToNat, undef, Value.cells, axL, wd, hvl', n1]; rfl) rfl ?_
      | (with_reducible first | refine end_reg (Ev.mono _ _) ?_ | refine end_dreg (Ev.mono _ _) ?_ | refine end_cond (Ev.mono _ _) ?_ | refine end_block (Ev.mono _ _) ?_ | refine end_loop (Ev.mono _ _) ?_))
    refine go_loop (Ev.mono _ _) (fun (k : Nat) ρ S' => k ≤ ds.length ∧ ρ = [(79, .int .i64 k), (12, v4), (11, v3), (78, .int .i64 ds.length)] ∧ S' = S6) (fun k => ds.length - k) 0 ⟨Nat.zero_le _, rfl, rfl⟩ ?_
    rintro k ρ S7 ⟨hk, rfl, rfl⟩
    repeat' (first
      | (with_reducible first | refine go_assoc ?_ (Ev.mono _ _) | refine go_skip ?_ | refine go_fin ?_ | refine go_ret ?_ | refine go_ret0 ?_ | refine go_exit ?_ | refine go_exit0 ?_ | refine go_block ?_ | refine n_then ?_ | refine x_then ?_ | refine r_then ?_ | refine n_block ?_ | refine r_block ?_ | refine x_block ?_ | refine x_block_ne ?_ (by decide))
      | (with_reducible refine is_k ?_; refine go_k _ (by simp only [Ax.runK, Ax.runOps, Ax.run1, Ax.wantA, Ax.step, Ax.ev, Ax.evs, Ax.evo, Ax.evp, Ax.look, Ax.putE, Ax.keepE, Ax.argsE, Ax.extr, Ax.binV, Ax.intBin, Ax.unV, Ax.addOff, Ax.sizeN, Ax.mkV, Ax.okV, reduceIte, Nat.reduceEqDiff, Nat.reduceAdd, Nat.reduceLeDiff, Nat.reduceLT, Nat.reduceSub, Nat.reduceMul, reduceCtorEq, Int.reduceEq, Int.reduceLT, Int.reduceLE, Int.reduceAdd, Int.reduceSub, Int.reduceNeg, Int.reduceToNat, undef, Value.cells, axL]; rfl) rfl ?_)
      | (with_reducible refine cond_t ?_ ?_; · simp only [Ax.ev, Ax.look, reduceIte, Nat.reduceEqDiff])
      | (with_reducible refine cond_f ?_ ?_; · simp only [Ax.ev, Ax.look, reduceIte, Nat.reduceEqDiff])
      | (with_reducible refine is_rp ?_; first | refine r_postR rfl ?_ | refine r_postR (by simp only [Ax.result, Ax.resVs, Ax.resV, R4, Ax.look, sizeN, mkV, Nat.reduceEqDiff, reduceIte, axL]; rfl) ?_)
      | (with_reducible refine is_np ?_; first | refine n_postR rfl ?_ | refine n_postR (by simp only [Ax.result, Ax.resVs, Ax.resV, R4, Ax.look, sizeN, mkV, Nat.reduceEqDiff, reduceIte, axL]; rfl) ?_)
      | (first | with_reducible refine is_wd ?_ | with_reducible refine dk_wd ?_); refine go_dt _ (by simp only [Ax.runDK, Ax.runDT, Ax.runDops, Ax.run1d, Ax.recs, Ax.okPair, Ax.idsE, Ax.idsV, AOp.mems, AOp.isWrite, DRec.none, axD, Ax.runK, Ax.runOps, Ax.run1, Ax.wantA, Ax.step, Ax.ev, Ax.evs, Ax.evo, Ax.evp, Ax.look, Ax.putE, Ax.keepE, Ax.argsE, Ax.extr, Ax.binV, Ax.intBin, Ax.unV, Ax.addOff, Ax.sizeN, Ax.mkV, Ax.okV, reduceIte, Nat.reduceEqDiff, Nat.reduceAdd, Nat.reduceLeDiff, Nat.reduceLT, Nat.reduceSub, Nat.reduceMul, reduceCtorEq, Int.reduceEq, Int.reduceLT, Int.reduceLE, Int.reduceAdd, Int.reduceSub, Int.reduceNeg, Int.reduceToNat, undef, Value.cells, axL]; rfl) rfl ?_
      | (with_reducible first | refine end_reg (Ev.mono _ _) ?_ | refine end_dreg (Ev.mono _ _) ?_ | refine end_cond (Ev.mono _ _) ?_ | refine end_block (Ev.mono _ _) ?_ | refine end_loop (Ev.mono _ _) ?_))
    refine cond_d rfl (fun hlt => ?_) (fun hlt => ?_)
    · have hkl : k < ds.length := by omega
      have wk : IntKind.wrap .i64 ((k : Int) + 1) = ((k + 1 : Nat) : Int) := wrapI (n := (k : Int) + 1) (by unfold I64; omega)
      obtain ⟨b1, a1, f1, f2, f3, f4⟩ := RdT.at (SlT.read (H6.pick 3 [2] rfl)) hkl .i64
      obtain ⟨b2, a2, g1, g2, g3, g4⟩ := RdT.at (SlT.read (H6.pick 3 [0] rfl)) hkl .i64
      repeat' (first
      | (with_reducible first | refine go_assoc ?_ (Ev.mono _ _) | refine go_skip ?_ | refine go_fin ?_ | refine go_ret ?_ | refine go_ret0 ?_ | refine go_exit ?_ | refine go_exit0 ?_ | refine go_block ?_ | refine n_then ?_ | refine x_then ?_ | refine r_then ?_ | refine n_block ?_ | refine r_block ?_ | refine x_block ?_ | refine x_block_ne ?_ (by decide))
      | (with_reducible refine is_k ?_; refine go_k _ (by simp only [Ax.runK, Ax.runOps, Ax.run1, Ax.wantA, Ax.step, Ax.ev, Ax.evs, Ax.evo, Ax.evp, Ax.look, Ax.putE, Ax.keepE, Ax.argsE, Ax.extr, Ax.binV, Ax.intBin, Ax.unV, Ax.addOff, Ax.sizeN, Ax.mkV, Ax.okV, reduceIte, Nat.reduceEqDiff, Nat.reduceAdd, Nat.reduceLeDiff, Nat.reduceLT, Nat.reduceSub, Nat.reduceMul, reduceCtorEq, Int.reduceEq, Int.reduceLT, Int.reduceLE, Int.reduceAdd, Int.reduceSub, Int.reduceNeg, Int.reduceToNat, undef, Value.cells, axL, f1, f3, g1, g3, wk]; rfl) rfl ?_)
      | (with_reducible refine cond_t ?_ ?_; · simp only [Ax.ev, Ax.look, reduceIte, Nat.reduceEqDiff])
      | (with_reducible refine cond_f ?_ ?_; · simp only [Ax.ev, Ax.look, reduceIte, Nat.reduceEqDiff])
      | (with_reducible refine is_rp ?_; first | refine r_postR rfl ?_ | refine r_postR (by simp only [Ax.result, Ax.resVs, Ax.resV, R4, Ax.look, sizeN, mkV, Nat.reduceEqDiff, reduceIte, axL, f1, f3, g1, g3, wk]; rfl) ?_)
      | (with_reducible refine is_np ?_; first | refine n_postR rfl ?_ | refine n_postR (by simp only [Ax.result, Ax.resVs, Ax.resV, R4, Ax.look, sizeN, mkV, Nat.reduceEqDiff, reduceIte, axL, f1, f3, g1, g3, wk]; rfl) ?_)
      | (first | with_reducible refine is_wd ?_ | with_reducible refine dk_wd ?_); refine go_dt _ (by simp only [Ax.runDK, Ax.runDT, Ax.runDops, Ax.run1d, Ax.recs, Ax.okPair, Ax.idsE, Ax.idsV, AOp.mems, AOp.isWrite, DRec.none, axD, Ax.runK, Ax.runOps, Ax.run1, Ax.wantA, Ax.step, Ax.ev, Ax.evs, Ax.evo, Ax.evp, Ax.look, Ax.putE, Ax.keepE, Ax.argsE, Ax.extr, Ax.binV, Ax.intBin, Ax.unV, Ax.addOff, Ax.sizeN, Ax.mkV, Ax.okV, reduceIte, Nat.reduceEqDiff, Nat.reduceAdd, Nat.reduceLeDiff, Nat.reduceLT, Nat.reduceSub, Nat.reduceMul, reduceCtorEq, Int.reduceEq, Int.reduceLT, Int.reduceLE, Int.reduceAdd, Int.reduceSub, Int.reduceNeg, Int.reduceToNat, undef, Value.cells, axL, f1, f3, g1, g3, wk]; rfl) rfl ?_
      | (with_reducible first | refine end_reg (Ev.mono _ _) ?_ | refine end_dreg (Ev.mono _ _) ?_ | refine end_cond (Ev.mono _ _) ?_ | refine end_block (Ev.mono _ _) ?_ | refine end_loop (Ev.mono _ _) ?_))
      exact ⟨k + 1, by omega, hkl, rfl, rfl⟩
    · repeat' (first
      | (with_reducible first | refine go_assoc ?_ (Ev.mono _ _) | refine go_skip ?_ | refine go_fin ?_ | refine go_ret ?_ | refine go_ret0 ?_ | refine go_exit ?_ | refine go_exit0 ?_ | refine go_block ?_ | refine n_then ?_ | refine x_then ?_ | refine r_then ?_ | refine n_block ?_ | refine r_block ?_ | refine x_block ?_ | refine x_block_ne ?_ (by decide))
      | (with_reducible refine is_k ?_; refine go_k _ (by simp only [Ax.runK, Ax.runOps, Ax.run1, Ax.wantA, Ax.step, Ax.ev, Ax.evs, Ax.evo, Ax.evp, Ax.look, Ax.putE, Ax.keepE, Ax.argsE, Ax.extr, Ax.binV, Ax.intBin, Ax.unV, Ax.addOff, Ax.sizeN, Ax.mkV, Ax.okV, reduceIte, Nat.reduceEqDiff, Nat.reduceAdd, Nat.reduceLeDiff, Nat.reduceLT, Nat.reduceSub, Nat.reduceMul, reduceCtorEq, Int.reduceEq, Int.reduceLT, Int.reduceLE, Int.reduceAdd, Int.reduceSub, Int.reduceNeg, Int.reduceToNat, undef, Value.cells, axL]; rfl) rfl ?_)
      | (with_reducible refine cond_t ?_ ?_; · simp only [Ax.ev, Ax.look, reduceIte, Nat.reduceEqDiff])
      | (with_reducible refine cond_f ?_ ?_; · simp only [Ax.ev, Ax.look, reduceIte, Nat.reduceEqDiff])
      | (with_reducible refine is_rp ?_; first | refine r_postR rfl ?_ | refine r_postR (by simp only [Ax.result, Ax.resVs, Ax.resV, R4, Ax.look, sizeN, mkV, Nat.reduceEqDiff, reduceIte, axL]; rfl) ?_)
      | (with_reducible refine is_np ?_; first | refine n_postR rfl ?_ | refine n_postR (by simp only [Ax.result, Ax.resVs, Ax.resV, R4, Ax.look, sizeN, mkV, Nat.reduceEqDiff, reduceIte, axL]; rfl) ?_)
      | (first | with_reducible refine is_wd ?_ | with_reducible refine dk_wd ?_); refine go_dt _ (by simp only [Ax.runDK, Ax.runDT, Ax.runDops, Ax.run1d, Ax.recs, Ax.okPair, Ax.idsE, Ax.idsV, AOp.mems, AOp.isWrite, DRec.none, axD, Ax.runK, Ax.runOps, Ax.run1, Ax.wantA, Ax.step, Ax.ev, Ax.evs, Ax.evo, Ax.evp, Ax.look, Ax.putE, Ax.keepE, Ax.argsE, Ax.extr, Ax.binV, Ax.intBin, Ax.unV, Ax.addOff, Ax.sizeN, Ax.mkV, Ax.okV, reduceIte, Nat.reduceEqDiff, Nat.reduceAdd, Nat.reduceLeDiff, Nat.reduceLT, Nat.reduceSub, Nat.reduceMul, reduceCtorEq, Int.reduceEq, Int.reduceLT, Int.reduceLE, Int.reduceAdd, Int.reduceSub, Int.reduceNeg, Int.reduceToNat, undef, Value.cells, axL]; rfl) rfl ?_
      | (with_reducible first | refine end_reg (Ev.mono _ _) ?_ | refine end_dreg (Ev.mono _ _) ?_ | refine end_cond (Ev.mono _ _) ?_ | refine end_block (Ev.mono _ _) ?_ | refine end_loop (Ev.mono _ _) ?_))
      repeat' (with_reducible first | refine go_assoc ?_ (Ev.mono _ _) | refine go_skip ?_ | refine go_block ?_ | refine end_reg (Ev.mono _ _) ?_)
      refine go_callN 0 _ (by simp only [Ax.runN, Ax.runK, Ax.runOps, Ax.run1, Ax.wantA, Ax.step, Ax.ev, Ax.evs, Ax.evo, Ax.evp, Ax.look, Ax.putE, Ax.keepE, Ax.argsE, Ax.extr, Ax.binV, Ax.intBin, Ax.unV, Ax.addOff, Ax.sizeN, Ax.mkV, Ax.okV, reduceIte, Nat.reduceEqDiff, Nat.reduceAdd, Nat.reduceLeDiff, Nat.reduceLT, Nat.reduceSub, Nat.reduceMul, reduceCtorEq, Int.reduceEq, Int.reduceLT, Int.reduceLE, Int.reduceAdd, Int.reduceSub, Int.reduceNeg, Int.reduceToNat, undef, Value.cells, axL]; rfl) rfl rfl (by simp only [Ax.wantA, Ax.look, reduceIte, Nat.reduceEqDiff, bq_t, bq_f, Bool.not_true, Bool.not_false]; try rfl) rfl (by simp only [Ax.runK, Ax.runOps, Ax.run1, Ax.wantA, Ax.step, Ax.ev, Ax.evs, Ax.evo, Ax.evp, Ax.look, Ax.putE, Ax.keepE, Ax.argsE, Ax.extr, Ax.binV, Ax.intBin, Ax.unV, Ax.addOff, Ax.sizeN, Ax.mkV, Ax.okV, reduceIte, Nat.reduceEqDiff, Nat.reduceAdd, Nat.reduceLeDiff, Nat.reduceLT, Nat.reduceSub, Nat.reduceMul, reduceCtorEq, Int.reduceEq, Int.reduceLT, Int.reduceLE, Int.reduceAdd, Int.reduceSub, Int.reduceNeg, Int.reduceToNat, undef, Value.cells, axL]; try rfl) ?_
      refine Ev.known G_live X_live ?_
      repeat' (first
      | (with_reducible first | refine go_assoc ?_ (Ev.mono _ _) | refine go_skip ?_ | refine go_fin ?_ | refine go_ret ?_ | refine go_ret0 ?_ | refine go_exit ?_ | refine go_exit0 ?_ | refine go_block ?_ | refine n_then ?_ | refine x_then ?_ | refine r_then ?_ | refine n_block ?_ | refine r_block ?_ | refine x_block ?_ | refine x_block_ne ?_ (by decide))
      | (with_reducible refine is_k ?_; refine go_k _ (by simp only [Ax.runK, Ax.runOps, Ax.run1, Ax.wantA, Ax.step, Ax.ev, Ax.evs, Ax.evo, Ax.evp, Ax.look, Ax.putE, Ax.keepE, Ax.argsE, Ax.extr, Ax.binV, Ax.intBin, Ax.unV, Ax.addOff, Ax.sizeN, Ax.mkV, Ax.okV, reduceIte, Nat.reduceEqDiff, Nat.reduceAdd, Nat.reduceLeDiff, Nat.reduceLT, Nat.reduceSub, Nat.reduceMul, reduceCtorEq, Int.reduceEq, Int.reduceLT, Int.reduceLE, Int.reduceAdd, Int.reduceSub, Int.reduceNeg, Int.reduceToNat, undef, Value.cells, axL]; rfl) rfl ?_)
      | (with_reducible refine cond_t ?_ ?_; · simp only [Ax.ev, Ax.look, reduceIte, Nat.reduceEqDiff])
      | (with_reducible refine cond_f ?_ ?_; · simp only [Ax.ev, Ax.look, reduceIte, Nat.reduceEqDiff])
      | (with_reducible refine is_rp ?_; first | refine r_postR rfl ?_ | refine r_postR (by simp only [Ax.result, Ax.resVs, Ax.resV, R4, Ax.look, sizeN, mkV, Nat.reduceEqDiff, reduceIte, axL]; rfl) ?_)
      | (with_reducible refine is_np ?_; first | refine n_postR rfl ?_ | refine n_postR (by simp only [Ax.result, Ax.resVs, Ax.resV, R4, Ax.look, sizeN, mkV, Nat.reduceEqDiff, reduceIte, axL]; rfl) ?_)
      | (first | with_reducible refine is_wd ?_ | with_reducible refine dk_wd ?_); refine go_dt _ (by simp only [Ax.runDK, Ax.runDT, Ax.runDops, Ax.run1d, Ax.recs, Ax.okPair, Ax.idsE, Ax.idsV, AOp.mems, AOp.isWrite, DRec.none, axD, Ax.runK, Ax.runOps, Ax.run1, Ax.wantA, Ax.step, Ax.ev, Ax.evs, Ax.evo, Ax.evp, Ax.look, Ax.putE, Ax.keepE, Ax.argsE, Ax.extr, Ax.binV, Ax.intBin, Ax.unV, Ax.addOff, Ax.sizeN, Ax.mkV, Ax.okV, reduceIte, Nat.reduceEqDiff, Nat.reduceAdd, Nat.reduceLeDiff, Nat.reduceLT, Nat.reduceSub, Nat.reduceMul, reduceCtorEq, Int.reduceEq, Int.reduceLT, Int.reduceLE, Int.reduceAdd, Int.reduceSub, Int.reduceNeg, Int.reduceToNat, undef, Value.cells, axL]; rfl) rfl ?_
      | (with_reducible first | refine end_reg (Ev.mono _ _) ?_ | refine end_dreg (Ev.mono _ _) ?_ | refine end_cond (Ev.mono _ _) ?_ | refine end_block (Ev.mono _ _) ?_ | refine end_loop (Ev.mono _ _) ?_))
      rfl

end Go.Proofs.Ytboclpaokecalaa

