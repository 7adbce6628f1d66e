/- Part 3 of Ax. -/
import Derived.Test.YtboclpaokecalaaAx2
set_option linter.unusedVariables false
set_option linter.unusedSimpArgs false
set_option linter.unnecessarySimpa false
/- Rules and lemmas by which code is walked without a word for each step. -/
namespace Go.Ax
open Enc (enc)

section rules
variable {Γ : Fns} {ρ ρ' ρ2 : Env} {S S' : AS} {Q : AExit → Env → AS → Prop} {a b c : ACode} {live : List Nat} {ops : List AOper} {id : Nat}

theorem end_reg (hΓ : LeF Γ Γ) (h : wpE Γ (.seq (.reg live ops) .skip) ρ S Q) : wpE Γ (.reg live ops) ρ S Q := go_end h hΓ
theorem end_dreg {ops : List (AOper × List Nat)} (hΓ : LeF Γ Γ) (h : wpE Γ (.seq (.dreg live ops) .skip) ρ S Q) : wpE Γ (.dreg live ops) ρ S Q := go_end h hΓ
theorem end_cond {o : Operand} (hΓ : LeF Γ Γ) (h : wpE Γ (.seq (.cond o a b) .skip) ρ S Q) : wpE Γ (.cond o a b) ρ S Q := go_end h hΓ
theorem end_block (hΓ : LeF Γ Γ) (h : wpE Γ (.seq (.block id a) .skip) ρ S Q) : wpE Γ (.block id a) ρ S Q := go_end h hΓ
theorem end_loop (hΓ : LeF Γ Γ) (h : wpE Γ (.seq (.loop a) .skip) ρ S Q) : wpE Γ (.loop a) ρ S Q := go_end h hΓ
theorem cond_t {o : Operand} (h : ev ρ o = some (.bool true)) (h1 : wpE Γ (.seq a c) ρ S Q) : wpE Γ (.seq (.cond o a b) c) ρ S Q := go_cond h (fun _ => h1) (fun h => by cases h)
theorem cond_f {o : Operand} (h : ev ρ o = some (.bool false)) (h1 : wpE Γ (.seq b c) ρ S Q) : wpE Γ (.seq (.cond o a b) c) ρ S Q := go_cond h (fun h => by cases h) (fun _ => h1)
/-- A condition that is a question. -/
theorem cond_d {o : Operand} {φ : Prop} [Decidable φ] (h : ev ρ o = some (.bool (decide φ))) (h1 : φ → wpE Γ (.seq a c) ρ S Q) (h2 : ¬φ → wpE Γ (.seq b c) ρ S Q) : wpE Γ (.seq (.cond o a b) c) ρ S Q :=
  go_cond h (fun ht => h1 (of_decide_eq_true ht)) (fun ht => h2 (of_decide_eq_false ht))
end rules

/-- What is said of a function's end, by its results. -/
def postR (rs : List ARes) (Q : Value → AS → Prop) (x : AExit) (ρ : Env) (S : AS) : Prop :=
  match x with
  | .exit _ => False
  | _ => match result ρ S rs with
    | some v => Q v S
    | none => False

theorem r_postR {rs : List ARes} {Q : Value → AS → Prop} {ρ : Env} {S : AS} {v : Value} (h : result ρ S rs = some v) (hq : Q v S) : postR rs Q .ret ρ S := by simp only [postR, h]; exact hq
theorem n_postR {rs : List ARes} {Q : Value → AS → Prop} {ρ : Env} {S : AS} {v : Value} (h : result ρ S rs = some v) (hq : Q v S) : postR rs Q .normal ρ S := by simp only [postR, h]; exact hq

theorem Ev.fnR {G : Nat → Option AFun} {X : Nat → List Value → Option Value} {f : Nat} {rs : List ARes} {c : ACode} (haf : G f = some ⟨rs, c⟩) {a : List Value} {S : AS} {Q : Value → AS → Prop} (h : wpE (Ev G X) c (argsE 0 a) S (postR rs Q)) : Ev G X f a S Q :=
  Ev.fn haf (wpE_mono (Ev.mono G X) (fun x ρ S hp => by cases x <;> exact hp) h)

theorem is_k {Γ : Fns} {ρ : Env} {S : AS} {Q : AExit → Env → AS → Prop} {b : ACode} {live : List Nat} {ops : List AOper} (h : wpE Γ (.seq (.reg live ops) b) ρ S Q) : wpE Γ (.seq (.reg live ops) b) ρ S Q := h
theorem is_dk {Γ : Fns} {ρ : Env} {S : AS} {Q : AExit → Env → AS → Prop} {b : ACode} {live : List Nat} {ops : List (AOper × List Nat)} (h : wpE Γ (.seq (.dreg live ops) b) ρ S Q) : wpE Γ (.seq (.dreg live ops) b) ρ S Q := h
theorem is_wd {Γ : Fns} {live : List Nat} {ops : List (AOper × List Nat)} {hist : List DRec} {ρ : Env} {S : AS} {b : ACode} {Q : AExit → Env → AS → Prop} (h : wpD Γ live ops hist ρ S b Q) : wpD Γ live ops hist ρ S b Q := h
theorem dk_wd {Γ : Fns} {ρ : Env} {S : AS} {Q : AExit → Env → AS → Prop} {b : ACode} {live : List Nat} {ops : List (AOper × List Nat)} (h : wpD Γ live ops [] ρ S b Q) : wpE Γ (.seq (.dreg live ops) b) ρ S Q := h
theorem is_rp {rs : List ARes} {Q : Value → AS → Prop} {ρ : Env} {S : AS} (h : postR rs Q .ret ρ S) : postR rs Q .ret ρ S := h
theorem is_np {rs : List ARes} {Q : Value → AS → Prop} {ρ : Env} {S : AS} (h : postR rs Q .normal ρ S) : postR rs Q .normal ρ S := h

theorem cast0 : ((0 : Nat) : Int) = 0 := rfl
theorem cast1 : ((1 : Nat) : Int) = 1 := rfl
theorem cast2 : ((2 : Nat) : Int) = 2 := rfl

/-- The operations of a region up to the first call that is wanted. -/
def runC : List AOper → Env → AS → Option (Env × AS × List AOper)
  | [], _, _ => none
  | o :: r, ρ, S => match o.op.isCall, wantA ρ o.guard with
    | true, some true => some (ρ, S, o :: r)
    | _, _ => match run1 o ρ S with
      | some (ρ', S') => runC r ρ' S'
      | none => none

theorem runC_spec : ∀ {l : List AOper} {ρ ρ' : Env} {S S' : AS} {r : List AOper}, runC l ρ S = some (ρ', S', r) → ∃ k, runN k l ρ S = some (ρ', S', r)
  | [], ρ, ρ', S, S', r, h => by simp [runC] at h
  | o :: l, ρ, ρ', S, S', r, h => by
    simp only [runC] at h
    split at h
    · exact ⟨0, h⟩
    · split at h
      · rename_i ρ1 S1 h1
        obtain ⟨k, hk⟩ := runC_spec h
        exact ⟨k + 1, by simp only [runN, h1]; exact hk⟩
      · cases h

theorem go_callC {Γ : Fns} {ρ ρ' : Env} {S S' : AS} {Q : AExit → Env → AS → Prop} {b : ACode} {live : List Nat} {ops : List AOper} (r : Option (Env × AS × List AOper)) {o : AOper} {rest : List AOper} {f : Operand} {args : List Operand} {id : FuncId} {first cap : Array Value} {vs : List Value}
    (h : runC ops ρ S = r) (hr : r = some (ρ', S', o :: rest)) (ho : o.op = .call f args) (hw : wantA ρ' o.guard = some true) (hf : ev ρ' f = some (.func (.func id) first cap)) (hv : evs ρ' args = some vs)
    (hq : Γ id (first.toList ++ vs ++ cap.toList) S' fun v S'' => wpE Γ (.seq (.reg live rest) b) (putE ρ' o.dst v) S'' Q) : wpE Γ (.seq (.reg live ops) b) ρ S Q := by
  subst hr
  obtain ⟨k, hk⟩ := runC_spec h
  exact go_callN k _ hk rfl ho hw hf hv hq

/-- The same where the order is open. -/
def runDC : List (AOper × List Nat) → List DRec → Env → AS → Option (List DRec × Env × AS × List (AOper × List Nat))
  | [], _, _, _ => none
  | (o, U) :: r, hist, ρ, S => match o.op.isCall, wantA ρ o.guard with
    | true, some true => some (hist, ρ, S, (o, U) :: r)
    | _, _ => match run1d o U hist ρ S with
      | some (hist', ρ', S') => runDC r hist' ρ' S'
      | none => none

theorem runDC_spec : ∀ {l : List (AOper × List Nat)} {hist hist' : List DRec} {ρ ρ' : Env} {S S' : AS} {r : List (AOper × List Nat)}, runDC l hist ρ S = some (hist', ρ', S', r) → ∃ k, runDN k l hist ρ S = some (hist', ρ', S', r)
  | [], hist, hist', ρ, ρ', S, S', r, h => by simp [runDC] at h
  | (o, U) :: l, hist, hist', ρ, ρ', S, S', r, h => by
    simp only [runDC] at h
    split at h
    · exact ⟨0, h⟩
    · split at h
      · rename_i h0 ρ1 S1 h1
        obtain ⟨k, hk⟩ := runDC_spec h
        exact ⟨k + 1, by simp only [runDN, h1]; exact hk⟩
      · cases h

theorem runC_nil (ρ : Env) (S : AS) : runC [] ρ S = none := rfl
theorem beq_dec (a b : Int) : (a == b) = decide (a = b) := by
  by_cases h : a = b <;> simp [h]
theorem bne_dec (a b : Int) : (a != b) = decide (¬ a = b) := by
  by_cases h : a = b <;> simp [h]

section cells
variable {S : AS} {b b' o n : Nat} {cs : List Value} {v : Value} {ro : Bool}

theorem get1 (h : S.h b = some (.cells ro cs)) (o : Nat) : getCells S b o 1 = (cs[o]?).map fun v => [v] := by
  simp only [getCells, h]
  rcases Nat.lt_or_ge o cs.length with ho | ho
  · rw [if_pos (by omega), List.getElem?_eq_getElem ho, List.drop_eq_getElem_cons ho]; rfl
  · rw [if_neg (by omega), List.getElem?_eq_none ho]; rfl

theorem set1 (h : S.h b = some (.cells false cs)) (o : Nat) (v : Value) : setCells S b o [v] = (cs[o]?).map fun _ => S.set b (some (.cells false (cs.set o v))) := by
  simp only [setCells, h]
  rcases Nat.lt_or_ge o cs.length with ho | ho
  · rw [if_pos (by simp; omega), List.getElem?_eq_getElem ho, List.set_eq_take_append_cons_drop, if_pos ho]; simp
  · rw [if_neg (by simp; omega), List.getElem?_eq_none ho]; rfl

theorem getAll (h : S.h b = some (.cells ro cs)) (hn : cs.length = n) : getCells S b 0 n = some cs := by
  simp only [getCells, h]
  rw [if_pos (by omega), ← hn]
  simp

theorem set_set (S : AS) (b : Nat) (x y : Option AObj) : (S.set b x).set b y = S.set b y := by
  unfold AS.set
  congr 1
  funext j
  simp only
  split <;> rfl

theorem get1_set (S : AS) (b o : Nat) (ro : Bool) (cs : List Value) : getCells (S.set b (some (.cells ro cs))) b o 1 = (cs[o]?).map fun v => [v] := get1 (by rw [set_h, if_pos rfl]) o
theorem set1_set (S : AS) (b o : Nat) (cs : List Value) (v : Value) : setCells (S.set b (some (.cells false cs))) b o [v] = (cs[o]?).map fun _ => S.set b (some (.cells false (cs.set o v))) := by
  rw [set1 (cs := cs) (by rw [set_h, if_pos rfl])]; simp only [set_set]
theorem get_set_ne (x : Option AObj) (h : b' ≠ b) : getCells (S.set b x) b' o n = getCells S b' o n := by simp only [getCells, set_h, if_neg h]
theorem get_new_ne (x : AObj) (h : b' ≠ S.nx) : getCells (S.new x) b' o n = getCells S b' o n := by simp only [getCells, new_h, if_neg h]
theorem get1_new (S : AS) (o : Nat) (ro : Bool) (cs : List Value) : getCells (S.new (.cells ro cs)) S.nx o 1 = (cs[o]?).map fun v => [v] := get1 (by rw [new_h, if_pos rfl]) o
theorem set1_new (S : AS) (o : Nat) (cs : List Value) (v : Value) : setCells (S.new (.cells false cs)) S.nx o [v] = (cs[o]?).map fun _ => (S.new (.cells false (cs.set o v))) := by
  rw [set1 (cs := cs) (by rw [new_h, if_pos rfl])]
  congr 1
  funext _
  unfold AS.set AS.new
  congr 1
  funext j
  simp only
  split <;> rfl
theorem setAll {vs : List Value} (h : S.h b = some (.cells false cs)) (hn : vs.length = cs.length) : setCells S b 0 vs = some (S.set b (some (.cells false vs))) := by
  simp only [setCells, h]
  rw [if_pos (by omega), hn]
  simp
theorem setAll_new {vs : List Value} (hn : vs.length = cs.length) : setCells (S.new (.cells false cs)) S.nx 0 vs = some (S.new (.cells false vs)) := by
  rw [setAll (cs := cs) (by rw [new_h, if_pos rfl]) hn]
  congr 1
  unfold AS.set AS.new
  congr 1
  funext j
  simp only
  split <;> rfl
theorem src_new {cs : List Value} {esz n c : Nat} {q : Option Nat} {ro : Bool} (h : cs.length = n * esz) : srcCells (S.new (.cells ro cs)) esz (.slice (some ⟨S.nx, 0, q⟩) n c) = some cs := by
  cases n with
  | zero =>
    have : cs = [] := List.eq_nil_of_length_eq_zero (by simpa using h)
    subst this; rfl
  | succ n =>
    simp only [srcCells, getCells, new_h, if_true]
    rw [if_pos (by omega), ← h]
    simp
theorem src_len (a : Option Addr) (n c : Nat) : Ax.srcLen (.slice a n c) = n := rfl
/-- No id is in an empty range. -/
theorem no_range (n i : Nat) : (decide (n ≤ i) && decide (i < n)) = false := by
  by_cases h : n ≤ i
  · have : ¬ i < n := by omega
    simp [this]
  · simp [h]
theorem in_range {lo i hi : Nat} (h : i < lo) : (decide (lo ≤ i) && decide (i < hi)) = false := by
  have : ¬ lo ≤ i := by omega
  simp [this]
end cells

theorem fillL_nil (z : List Value) : fillL z [] = some z := rfl
theorem fillL_cons (z : List Value) (off n : Nat) (v : Value) (r : List (Nat × Nat × Value)) : fillL z ((off, n, v) :: r) = if okV v = true ∧ v.cells.toList.length = n ∧ off + n ≤ z.length then fillL (z.take off ++ v.cells.toList ++ z.drop (off + n)) r else none := rfl

section shape
variable {R : Nat → Option (List Value)} {A : List Asn} {S S' : AS} {α : Type} {esz : Nat} [Enc α esz] {v : Value} {l : List α}

/-- An element, read whole. -/
theorem RdT.at (h : RdT S v l) {k : Nat} (hk : k < l.length) (kd : IntKind) : ∃ b a, idxSl esz v (.int kd k) = some (.pointer (some ⟨b, a, none⟩)) ∧ b < S.nx ∧ getCells S b a esz = some (enc l[k]) ∧ ∀ off x, off < esz → (enc l[k])[off]? = some x → getCells S b (a + off) 1 = some [x] := by
  obtain ⟨b, a, h1, h2, h3, h4⟩ := RdT.idx h hk kd
  refine ⟨b, a, h1, h2, ?_, fun off x ho hx => ?_⟩
  · rw [h4 esz (Nat.le_refl _), List.take_of_length_le (by rw [Enc.len]; exact Nat.le_refl _)]
  · rw [h3 off 1 (by omega)]
    have hlt : off < (enc l[k]).length := by rw [Enc.len]; exact ho
    rw [List.getElem?_eq_getElem hlt] at hx
    rw [List.drop_eq_getElem_cons hlt, Option.some.inj hx]
    rfl

theorem RdT.shape (h : RdT S v l) : ∃ a c, v = .slice a l.length c := by
  obtain ⟨_, a, c, rfl, _⟩ := h; exact ⟨a, c, rfl⟩
theorem SlT.shape (h : St R (SlT v l :: A) S) : ∃ a c, v = .slice a l.length c := (SlT.read h).shape
end shape

/-- A round of a loop. -/
theorem unroll {G : Nat → Option AFun} {X : Nat → List Value → Option Value} {a b : ACode} {ρ : Env} {S : AS} {Q : AExit → Env → AS → Prop} (h : wpE (Ev G X) a ρ S (thenK (fun ρ' S' => wpE (Ev G X) (.seq (.loop a) b) ρ' S' Q) (thenK (fun ρ' S' => wpE (Ev G X) b ρ' S' Q) Q))) : wpE (Ev G X) (.seq (.loop a) b) ρ S Q := by
  obtain ⟨K, hK⟩ : ∃ K, K = thenK (fun ρ' S' => wpE (Ev G X) b ρ' S' Q) Q := ⟨_, rfl⟩
  have hm : LeF (Ev G X) (Ev G X) := Ev.mono G X
  obtain ⟨k, hk⟩ := wpE_cpt (Ev.cpt G X) (fun k k' h => wpF_mono G X h) hm (K := fun n => thenK (fun ρ' S' => wpLoop (wpE (Ev G X) a) n ρ' S' K) K)
    (fun k k' x ρ' S' hle hh => thenK_mono (fun ρ S h => wpLoop_mono (b := wpE (Ev G X) a) (b' := wpE (Ev G X) a) (fun ρ S K K' h hw => wpE_mono hm h hw) (fun _ _ _ h => h) hle h) (fun _ _ _ h => h) x ρ' S' hh)
    (c := a) (ρ := ρ) (S := S) (wpE_mono hm (fun x ρ' S' hh => by
      cases x with
      | normal =>
        simp only [thenK, wpE] at hh ⊢
        rw [← hK] at hh
        exact hh
      | exit id => rw [← hK] at hh; exact ⟨0, hh⟩
      | ret => rw [← hK] at hh; exact ⟨0, hh⟩) h)
  have hle : LeF (wpF G X k) (Ev G X) := fun f a S Q Q' hq hw => Ev.mono G X f a S Q Q' hq ⟨k, hw⟩
  refine ⟨k + 1, ?_⟩
  simp only [wpLoop]
  rw [← hK]
  refine wpE_mono hle (fun x ρ' S' hh => ?_) (wpC_wpE (wpF_mono G X (Nat.le_refl _)) hk)
  cases x <;> exact hh

theorem go_unassoc {Γ : Fns} (hΓ : LeF Γ Γ) {a b c : ACode} {ρ : Env} {S : AS} {Q : AExit → Env → AS → Prop} (h : wpE Γ (.seq (.seq a b) c) ρ S Q) : wpE Γ (.seq a (.seq b c)) ρ S Q := by
  simp only [wpE] at *
  refine wpE_mono hΓ (fun x ρ S hh => ?_) h
  cases x <;> exact hh

/-- What stands between two pieces of code. -/
theorem go_cut {Γ : Fns} (hΓ : LeF Γ Γ) {a b : ACode} {ρ : Env} {S : AS} {Q : AExit → Env → AS → Prop} (N : Env → AS → Prop) (h1 : wpE Γ a ρ S (thenK N Q)) (h2 : ∀ ρ' S', N ρ' S' → wpE Γ b ρ' S' Q) : wpE Γ (.seq a b) ρ S Q := by
  simp only [wpE]
  exact wpE_mono hΓ (thenK_mono h2 (fun _ _ _ h => h)) h1

theorem nilP0 (b : Option Addr) : nilEq .ptr (.pointer none) (.pointer b) = some b.isNone := rfl
theorem nilP1 (a : Addr) : nilEq .ptr (.pointer (some a)) (.pointer none) = some false := rfl
theorem nilS0 (l c l' c' : Nat) (b : Option Addr) : nilEq .slice (.slice none l c) (.slice b l' c') = some b.isNone := rfl
theorem nilS1 (a : Addr) (l c l' c' : Nat) : nilEq .slice (.slice (some a) l c) (.slice none l' c') = some false := rfl
theorem nilM0 (b : Option Nat) : nilEq .map (.map none) (.map b) = some b.isNone := rfl
theorem nilM1 (a : Nat) : nilEq .map (.map (some a)) (.map none) = some false := rfl
theorem nilF0 : nilEq .func .nilFunc .nilFunc = some true := rfl
theorem nilF1 (f : Fn) (a c : Array Value) : nilEq .func (.func f a c) .nilFunc = some false := rfl
theorem lenV_sl (S : AS) (a : Option Addr) (n c : Nat) : lenV .sl S (.slice a n c) = some (.int .i64 n) := rfl

theorem join_hide (S : AS) (hid : List Nat) : S.join hid (S.hide hid) = S := by
  have : (S.join hid (S.hide hid)).h = S.h := by
    funext i
    simp only [AS.join, hide_h]
    by_cases h : hid.contains i = true
    · rw [if_pos (by rw [h]; rfl)]
    · rw [if_neg h, ite_self]
  cases S
  simp only [AS.join] at this ⊢
  simp only [AS.hide] at this ⊢
  congr 1

/-- A call that sees no memory, and leaves it. -/
theorem go_dcallP {Γ : Fns} {ρ ρ' : Env} {S S' : AS} {Q : AExit → Env → AS → Prop} {b : ACode} {live : List Nat} {ops : List (AOper × List Nat)} {hist hist' : List DRec} (k : Nat) (r : Option (List DRec × Env × AS × List (AOper × List Nat))) {o : AOper} {U : List Nat} {rest : List (AOper × List Nat)} {f : Operand} {args : List Operand} {id : FuncId} {first cap : Array Value} {vs : List Value} {v : Value}
    (h : runDN k ops hist ρ S = r) (hr : r = some (hist', ρ', S', (o, U) :: rest)) (ho : o.op = .call f args) (hw : wantA ρ' o.guard = some true) (hf : ev ρ' f = some (.func (.func id) first cap)) (hv : evs ρ' args = some vs)
    (hp : ∀ T (K : Value → AS → Prop), K v T → Γ id (first.toList ++ vs ++ cap.toList) T K)
    (hq : wpD Γ live rest (hist' ++ [DRec.none]) (putE ρ' o.dst v) S' b Q) : wpD Γ live ops hist ρ S b Q := by
  refine go_dcall k r h hr ho hw hf hv (hp _ _ ?_)
  rw [join_hide]
  exact hq

theorem hide_nil (S : AS) : S.hide [] = S := by
  cases S; simp [AS.hide]

theorem join_nil {S S1 : AS} (h : Gr S S1) : S.join [] S1 = S1 := by
  have : (S.join [] S1).h = S1.h := by
    funext i
    simp only [AS.join, List.contains_nil, Bool.false_or]
    by_cases hc : (S.roAt i && decide (i < S.nx)) = true
    · rw [if_pos hc]
      simp only [Bool.and_eq_true, decide_eq_true_eq] at hc
      cases hi : S.h i with
      | none => simp only [AS.roAt, hi] at hc; cases hc.1
      | some o =>
        simp only [AS.roAt, hi] at hc
        exact (h.ro i o hc.2 hi hc.1).symm
    · rw [if_neg hc]
  cases S1
  simp only [AS.join] at this ⊢
  congr 1

/-- A call from which nothing is hidden. -/
theorem go_dcall0 {G : Nat → Option AFun} {X : Nat → List Value → Option Value} {ρ ρ' : Env} {S S' : AS} {Q : AExit → Env → AS → Prop} {b : ACode} {live : List Nat} {ops : List (AOper × List Nat)} {hist hist' : List DRec} (k : Nat) (r : Option (List DRec × Env × AS × List (AOper × List Nat))) {o : AOper} {U : List Nat} {rest : List (AOper × List Nat)} {f : Operand} {args : List Operand} {id : FuncId} {first cap : Array Value} {vs : List Value}
    (h : runDN k ops hist ρ S = r) (hr : r = some (hist', ρ', S', (o, U) :: rest)) (ho : o.op = .call f args) (hw : wantA ρ' o.guard = some true) (hf : ev ρ' f = some (.func (.func id) first cap)) (hv : evs ρ' args = some vs) (hh : hidden S' (recs hist' U) = [])
    (hq : Ev G X id (first.toList ++ vs ++ cap.toList) S' fun v S1 => wpD (Ev G X) live rest (hist' ++ [DRec.none]) (putE ρ' o.dst v) S1 b Q) : wpD (Ev G X) live ops hist ρ S b Q := by
  refine go_dcall k r h hr ho hw hf hv ?_
  rw [hh, hide_nil]
  refine Ev.mono G X _ _ _ _ _ ?_ (Ev.nx _ _ _ _ hq)
  rintro v S1 ⟨h1, h2⟩
  rw [join_nil h2]
  exact h1

section dcalls
variable {G : Nat → Option AFun} {X : Nat → List Value → Option Value} {R : Nat → Option (List Value)} {ρ ρ' : Env} {S S' : AS} {Q : AExit → Env → AS → Prop} {b : ACode} {live : List Nat} {ops : List (AOper × List Nat)} {hist hist' : List DRec}
  {o : AOper} {U : List Nat} {rest : List (AOper × List Nat)} {f : Operand} {args : List Operand} {id : FuncId} {first cap : Array Value} {vs : List Value}

theorem go_dcall0C (r : Option (List DRec × Env × AS × List (AOper × List Nat)))
    (h : runDC ops hist ρ S = r) (hr : r = some (hist', ρ', S', (o, U) :: rest)) (ho : o.op = .call f args) (hw : wantA ρ' o.guard = some true) (hf : ev ρ' f = some (.func (.func id) first cap)) (hv : evs ρ' args = some vs) (hh : hidden S' (recs hist' U) = [])
    (hq : Ev G X id (first.toList ++ vs ++ cap.toList) S' fun v S1 => wpD (Ev G X) live rest (hist' ++ [DRec.none]) (putE ρ' o.dst v) S1 b Q) : wpD (Ev G X) live ops hist ρ S b Q := by
  subst hr
  obtain ⟨k, hk⟩ := runDC_spec h
  exact go_dcall0 k _ hk rfl ho hw hf hv hh hq

theorem go_dcallPC {v : Value} (r : Option (List DRec × Env × AS × List (AOper × List Nat)))
    (h : runDC ops hist ρ S = r) (hr : r = some (hist', ρ', S', (o, U) :: rest)) (ho : o.op = .call f args) (hw : wantA ρ' o.guard = some true) (hf : ev ρ' f = some (.func (.func id) first cap)) (hv : evs ρ' args = some vs)
    (hp : ∀ T (K : Value → AS → Prop), K v T → Ev G X id (first.toList ++ vs ++ cap.toList) T K)
    (hq : wpD (Ev G X) live rest (hist' ++ [DRec.none]) (putE ρ' o.dst v) S' b Q) : wpD (Ev G X) live ops hist ρ S b Q := by
  subst hr
  obtain ⟨k, hk⟩ := runDC_spec h
  exact go_dcallP k _ hk rfl ho hw hf hv hp hq

theorem go_dcallSC (r : Option (List DRec × Env × AS × List (AOper × List Nat)))
    (h : runDC ops hist ρ S = r) (hr : r = some (hist', ρ', S', (o, U) :: rest)) (ho : o.op = .call f args) (hw : wantA ρ' o.guard = some true) (hf : ev ρ' f = some (.func (.func id) first cap)) (hv : evs ρ' args = some vs)
    (hid : List Nat) (hh : hidden S' (recs hist' U) = hid) (ps : List Asn) (es : List Asn) (A : List Asn) (H : St R (ps ++ es ++ A) S') (he : ∀ i ∈ hid, ∃ o, obj i o ∈ es)
    (hq : ∀ E : Asn, ∀ T, St R (ps ++ [E]) T → Ev G X id (first.toList ++ vs ++ cap.toList) T fun v S1 => ∃ qs, St R (qs ++ [E]) S1 ∧ ∀ J, St R (qs ++ es ++ A) J → wpD (Ev G X) live rest (hist' ++ [DRec.none]) (putE ρ' o.dst v) J b Q) : wpD (Ev G X) live ops hist ρ S b Q := by
  subst hr
  obtain ⟨k, hk⟩ := runDC_spec h
  exact go_dcallS k _ hk rfl ho hw hf hv hid hh ps es A H he hq
end dcalls

/-- An input: it can be read for good. -/
def RIn {α : Type} {esz : Nat} [Enc α esz] (R : Nat → Option (List Value)) (v : Value) (l : List α) : Prop := ∀ A S, St R A S → RdT S v l

theorem enc_int (n : Int) : enc n = [.int .i64 n] := rfl

theorem RIn.rd {α : Type} {esz : Nat} [Enc α esz] {R : Nat → Option (List Value)} {v : Value} {l : List α} (h : RIn R v l) {A : List Asn} {S : AS} (H : St R A S) : RdT S v l := h A S H
theorem RIn.len {α : Type} {esz : Nat} [Enc α esz] {R : Nat → Option (List Value)} {v : Value} {l : List α} (h : RIn R v l) {A : List Asn} {S : AS} (H : St R A S) (S' : AS) : lenV .sl S' v = some (.int .i64 l.length) := (h A S H).len S'

theorem RIn.shape {α : Type} {esz : Nat} [Enc α esz] {R : Nat → Option (List Value)} {v : Value} {l : List α} (h : RIn R v l) {A : List Asn} {S : AS} (H : St R A S) : ∃ a c, v = .slice a l.length c := RdT.shape (h A S H)

theorem RIn.slice {α : Type} {esz : Nat} [Enc α esz] {R : Nat → Option (List Value)} {v : Value} {l : List α} (h : RIn R v l) {A : List Asn} {S : AS} (H : St R A S) {lo hi : Nat} (h1 : lo ≤ hi) (h2 : hi ≤ l.length) (x y : Option Value) (hx : x = none ∧ lo = 0 ∨ ∃ k, x = some (.int k lo)) (hy : y = none ∧ hi = l.length ∨ ∃ k, y = some (.int k hi)) :
    ∃ v', sliceV esz v x y none = some v' ∧ RIn R v' ((l.drop lo).take (hi - lo)) := by
  obtain ⟨v', h3, _⟩ := RdT.slice (h A S H) h1 h2 x y hx hy
  refine ⟨v', h3, fun A' S' H' => ?_⟩
  obtain ⟨v'', h4, h5⟩ := RdT.slice (h A' S' H') h1 h2 x y hx hy
  rw [h3] at h4; cases h4
  exact h5

/-- What a law says, where its closed example is known. -/
def Law (G : Nat → Option AFun) (X : Nat → List Value → Option Value) (f : Nat) (args : List Value) (R : Nat → Option (List Value)) : Prop := ∀ F S, St R F S → Ev G X f args S fun v _ => v = .bool true

/-- The machine's numbers. -/
def I64 (n : Int) : Prop := -9223372036854775808 ≤ n ∧ n ≤ 9223372036854775807
theorem wrapI {n : Int} (h : I64 n) : IntKind.wrap .i64 n = n := wrap64 h.1 h.2

/-- The lemmas by which each step is reckoned out. -/
theorem axL : type_of% (And.intro @Option.map_some.{0, 0} <|
  And.intro @Option.map_none.{0, 0} <|
  And.intro @Option.getD_some.{0} <|
  And.intro @Option.getD_none.{0} <|
  And.intro @Option.isNone_some.{0} <|
  And.intro @Option.isNone_none.{0} <|
  And.intro @bq_t <|
  And.intro @bq_f <|
  And.intro @beq_dec <|
  And.intro @bne_dec <|
  And.intro @Bool.not_true <|
  And.intro @Bool.not_false <|
  And.intro @Bool.false_eq_true <|
  And.intro @Bool.true_eq_false <|
  And.intro @decide_true <|
  And.intro @decide_false <|
  And.intro @List.size_toArray.{0} <|
  And.intro @List.length_cons.{0} <|
  And.intro @List.length_nil.{0} <|
  And.intro @and_self <|
  And.intro @and_true <|
  And.intro @true_and <|
  And.intro @List.getElem?_cons_zero.{0} <|
  And.intro @List.getElem?_cons_succ.{0} <|
  And.intro @List.set_cons_zero.{0} <|
  And.intro @List.set_cons_succ.{0} <|
  And.intro @get1_set <|
  And.intro @set1_set <|
  And.intro @get1_new <|
  And.intro @setAll_new <|
  And.intro @lenV_sl <|
  And.intro @enc_int <|
  And.intro @nilP0 <|
  And.intro @nilP1 <|
  And.intro @nilS0 <|
  And.intro @nilS1 <|
  And.intro @nilM0 <|
  And.intro @nilM1 <|
  And.intro @nilF0 <|
  And.intro @nilF1 <|
  And.intro @set_set <|
  And.intro @src_len <|
  And.intro @List.getElem?_toArray.{0} <|
  And.intro @gt_iff_lt.{0} <|
  And.intro @ge_iff_le.{0} <|
  And.intro @List.drop_zero.{0} <|
  And.intro @List.drop_succ_cons.{0} <|
  And.intro @List.take_zero.{0} <|
  And.intro @List.take_succ_cons.{0} <|
  And.intro @List.nil_append.{0} <|
  And.intro @List.cons_append.{0} <|
  And.intro @List.append_nil.{0} <|
  And.intro @fillL_nil <|
  And.intro @fillL_cons <|
  And.intro @Nat.zero_add <|
  And.intro @Nat.add_zero <|
  And.intro @Nat.le_refl <|
  And.intro @cast0 <|
  And.intro @cast1 <|
  And.intro @cast2 <|
  And.intro @Int.toNat_zero <|
  And.intro @Int.toNat_one <|
  And.intro @not_true_eq_false <|
  And.intro @not_false_eq_true <|
  And.intro @Bool.bne_false <|
  @Bool.bne_true) := And.intro @Option.map_some.{0, 0} <|
  And.intro @Option.map_none.{0, 0} <|
  And.intro @Option.getD_some.{0} <|
  And.intro @Option.getD_none.{0} <|
  And.intro @Option.isNone_some.{0} <|
  And.intro @Option.isNone_none.{0} <|
  And.intro @bq_t <|
  And.intro @bq_f <|
  And.intro @beq_dec <|
  And.intro @bne_dec <|
  And.intro @Bool.not_true <|
  And.intro @Bool.not_false <|
  And.intro @Bool.false_eq_true <|
  And.intro @Bool.true_eq_false <|
  And.intro @decide_true <|
  And.intro @decide_false <|
  And.intro @List.size_toArray.{0} <|
  And.intro @List.length_cons.{0} <|
  And.intro @List.length_nil.{0} <|
  And.intro @and_self <|
  And.intro @and_true <|
  And.intro @true_and <|
  And.intro @List.getElem?_cons_zero.{0} <|
  And.intro @List.getElem?_cons_succ.{0} <|
  And.intro @List.set_cons_zero.{0} <|
  And.intro @List.set_cons_succ.{0} <|
  And.intro @get1_set <|
  And.intro @set1_set <|
  And.intro @get1_new <|
  And.intro @setAll_new <|
  And.intro @lenV_sl <|
  And.intro @enc_int <|
  And.intro @nilP0 <|
  And.intro @nilP1 <|
  And.intro @nilS0 <|
  And.intro @nilS1 <|
  And.intro @nilM0 <|
  And.intro @nilM1 <|
  And.intro @nilF0 <|
  And.intro @nilF1 <|
  And.intro @set_set <|
  And.intro @src_len <|
  And.intro @List.getElem?_toArray.{0} <|
  And.intro @gt_iff_lt.{0} <|
  And.intro @ge_iff_le.{0} <|
  And.intro @List.drop_zero.{0} <|
  And.intro @List.drop_succ_cons.{0} <|
  And.intro @List.take_zero.{0} <|
  And.intro @List.take_succ_cons.{0} <|
  And.intro @List.nil_append.{0} <|
  And.intro @List.cons_append.{0} <|
  And.intro @List.append_nil.{0} <|
  And.intro @fillL_nil <|
  And.intro @fillL_cons <|
  And.intro @Nat.zero_add <|
  And.intro @Nat.add_zero <|
  And.intro @Nat.le_refl <|
  And.intro @cast0 <|
  And.intro @cast1 <|
  And.intro @cast2 <|
  And.intro @Int.toNat_zero <|
  And.intro @Int.toNat_one <|
  And.intro @not_true_eq_false <|
  And.intro @not_false_eq_true <|
  And.intro @Bool.bne_false <|
  @Bool.bne_true

/-- The same for regions whose order is open. -/
theorem axD : type_of% (And.intro @List.map_nil.{0, 0} <|
  And.intro @List.map_cons.{0, 0} <|
  And.intro @List.all_nil.{0} <|
  And.intro @List.all_cons.{0} <|
  And.intro @List.getD_cons_zero.{0} <|
  And.intro @List.getD_cons_succ.{0} <|
  And.intro @List.getD_nil.{0} <|
  And.intro @Bool.and_true <|
  And.intro @Bool.true_and <|
  And.intro @Bool.false_and <|
  And.intro @Bool.and_false <|
  And.intro @Bool.or_false <|
  And.intro @Bool.or_true <|
  And.intro @Bool.false_or <|
  And.intro @Bool.and_self <|
  And.intro @Bool.or_self <|
  And.intro @if_true.{0} <|
  And.intro @no_range <|
  And.intro @List.contains_cons.{0} <|
  And.intro @List.contains_nil.{0} <|
  @List.elem_nil.{0}) := And.intro @List.map_nil.{0, 0} <|
  And.intro @List.map_cons.{0, 0} <|
  And.intro @List.all_nil.{0} <|
  And.intro @List.all_cons.{0} <|
  And.intro @List.getD_cons_zero.{0} <|
  And.intro @List.getD_cons_succ.{0} <|
  And.intro @List.getD_nil.{0} <|
  And.intro @Bool.and_true <|
  And.intro @Bool.true_and <|
  And.intro @Bool.false_and <|
  And.intro @Bool.and_false <|
  And.intro @Bool.or_false <|
  And.intro @Bool.or_true <|
  And.intro @Bool.false_or <|
  And.intro @Bool.and_self <|
  And.intro @Bool.or_self <|
  And.intro @if_true.{0} <|
  And.intro @no_range <|
  And.intro @List.contains_cons.{0} <|
  And.intro @List.contains_nil.{0} <|
  @List.elem_nil.{0}

end Go.Ax

/- From a law that is walked to the program's calls: inputs that lie in memory. -/
namespace Go.Ax
open Enc (enc)
variable {P : Program}

/-- Rows of memory that came in: each a block, where in it, and its cells. -/
abbrev Rows := List (Option (Nat × Nat × List Value))

def muOf (rows : Rows) : Mu := fun i => ((rows[i]?).bind id).map fun r => (r.1, r.2.1, 0)
def roOf (rows : Rows) : Nat → Option (List Value) := fun i => ((rows[i]?).bind id).map fun r => r.2.2
def inS (rows : Rows) : AS := ⟨fun i => (roOf rows i).map fun cs => .cells true cs, rows.length⟩

/-- A row is there. -/
def RowOk (w : World) (μ : Mu) (r : Option (Nat × Nat × List Value)) : Prop :=
  ∀ b d cs, r = some (b, d, cs) → ∃ c e fz, w.heap[b]? = some (.cells c e fz) ∧ LRel μ cs ((c.toList.drop d).take cs.length) ∧ (∀ x ∈ cs, x.oneCell' = true) ∧ d + cs.length ≤ c.size

theorem rows_some {rows : Rows} {i : Nat} {cs : List Value} (h : roOf rows i = some cs) : i < rows.length ∧ ∃ b d, rows[i]? = some (some (b, d, cs)) ∧ muOf rows i = some (b, d, 0) := by
  unfold roOf at h
  cases hi : rows[i]? with
  | none => rw [hi] at h; simp at h
  | some r =>
    rw [hi] at h
    simp only [Option.bind_some, id_eq, Option.map_eq_some_iff] at h
    obtain ⟨⟨b, d, cs'⟩, h1, h2⟩ := h
    simp only at h2
    subst h2; subst h1
    refine ⟨?_, b, d, rfl, by simp [muOf, hi]⟩
    rcases Nat.lt_or_ge i rows.length with h | h
    · exact h
    · rw [List.getElem?_eq_none h] at hi; cases hi

theorem rel_in {w : World} {rows : Rows} (h : ∀ r ∈ rows, RowOk w (muOf rows) r) : Rel w.heap.size (muOf rows) (inS rows) w := by
  have hblk : ∀ i cs, roOf rows i = some cs → ∃ b d, muOf rows i = some (b, d, 0) ∧ b < w.heap.size ∧ ORel w.heap.size (muOf rows) w b d 0 (.cells true cs) := by
    intro i cs hi
    obtain ⟨hlt, b, d, h1, h2⟩ := rows_some hi
    obtain ⟨c, e, fz, k1, k2, k3, k4⟩ := h _ (List.mem_of_getElem? h1) b d cs rfl
    have hb : b < w.heap.size := by
      rcases Nat.lt_or_ge b w.heap.size with h | h
      · exact h
      · rw [Array.getElem?_eq_none h] at k1; cases k1
    exact ⟨b, d, h2, hb, c, e, fz, k1, k2, k3, (fun h => by cases h), fun _ => hb, Nat.zero_le _, k4⟩
  refine ⟨fun i o hi => ?_, fun i j o o' p q hi hj hr _ _ _ => ?_, fun i p hp => ?_, Nat.le_refl _⟩
  · simp only [inS, Option.map_eq_some_iff] at hi
    obtain ⟨cs, h1, rfl⟩ := hi
    obtain ⟨b, d, h2, h3, h4⟩ := hblk i cs h1
    exact ⟨b, d, 0, h2, h4, fun h => by cases h⟩
  · simp only [inS, Option.map_eq_some_iff] at hi
    obtain ⟨cs, h1, rfl⟩ := hi
    cases hr
  · have : ∃ cs, roOf rows i = some cs ∧ True := by
      unfold muOf at hp; unfold roOf
      rw [Option.map_eq_some_iff] at hp
      obtain ⟨r, h1, _⟩ := hp
      exact ⟨r.2.2, by rw [h1]; rfl, trivial⟩
    obtain ⟨cs, h1, _⟩ := this
    obtain ⟨b, d, h2, h3, _⟩ := hblk i cs h1
    rw [h2] at hp; cases hp
    exact h3

theorem st_in (rows : Rows) : St (roOf rows) [] (inS rows) := by
  refine ⟨trivial, fun b cs hb => ?_⟩
  exact ⟨(rows_some hb).1, by simp only [inS, hb]; rfl⟩

theorem calls_of_law {G : Nat → Option AFun} {X : Nat → List Value → Option Value} (hP : P.follows .mixedOrders = true) (hG : ∀ f af, G f = some af → FunOk P f af) (hX : XOk P X) {f : Nat} {args : List Value} {rows : Rows}
    (law : Law G X f args (roOf rows)) {args' : Array Value} (w : World) (hr : ∀ r ∈ rows, RowOk w (muOf rows) r) (ha : LRel (muOf rows) args args'.toList) :
    Calls P f args' w fun e w' => e = .returned (.bool true) ∧ RowKit.Below w.heap.size w w' := by
  obtain ⟨k, hk⟩ := law [] _ (st_in rows)
  obtain ⟨_, h2⟩ := wpF_sound (B := w.heap.size) hP hG hX k f args _ _ hk
  have hrel := rel_in hr
  refine (h2 (muOf rows) w args' hrel (fun i hi => ?_) ha).mono ?_
  · unfold muOf
    rw [List.getElem?_eq_none (by exact hi)]; rfl
  · rintro e w' ⟨v, v', μ', S', rfl, rfl, hv, hr, hf⟩
    cases hv
    exact ⟨rfl, hf.below hrel⟩

/-- A row of numbers that came in. -/
theorem int_row {w : World} {k : IntKind} {a : Option Addr} {len cap : Nat} {zs : List Int}
    (h : (a = none ∧ len = 0 ∧ cap = 0 ∧ zs = []) ∨ ∃ x, a = some x ∧ len ≤ cap ∧ cap ≤ maxLen ∧ zs.length = cap ∧ (∀ i, i < zs.length → w.cell? (x.add i) = some (.int k (zs.getD i 0))) ∧ ∀ n ∈ zs, (Lit.int k n).wf = true) (i : Nat) :
    ∃ (r : Option (Nat × Nat × List Value)) (v : Value), (∀ μ, RowOk w μ r) ∧ (∀ μ : Mu, (∀ b d cs, r = some (b, d, cs) → μ i = some (b, d, 0)) → VRel μ v (.slice a len cap)) ∧ len = (zs.take len).length ∧
      (∀ R : Nat → Option (List Value), (∀ b d cs, r = some (b, d, cs) → R i = some cs) → ∀ A S, St R A S → Rd S 1 len v ((zs.take len).map (.int k))) := by
  have lrefl : ∀ (μ : Mu) (l : List Int), LRel μ (l.map (.int k)) (l.map (.int k)) := by
    intro μ l
    induction l with
    | nil => exact .nil
    | cons x l ih => exact .cons (.int _ _) ih
  rcases h with ⟨rfl, rfl, rfl, rfl⟩ | ⟨x, rfl, h1, h2, h3, h4, h5⟩
  · refine ⟨none, .slice none 0 0, ?_, fun μ _ => .snil _ _, rfl, fun R _ A S _ => ⟨rfl, none, 0, rfl, Nat.le_refl _, rfl⟩⟩
    intro μ b d cs h; cases h
  · by_cases h0 : cap = 0
    · subst h0
      have hl : len = 0 := by omega
      subst hl
      have hz : zs = [] := List.eq_nil_of_length_eq_zero h3
      subst hz
      refine ⟨none, .slice (some ⟨0, 0, none⟩) 0 0, ?_, fun μ _ => .s0 x, rfl, fun R _ A S _ => ⟨rfl, some ⟨0, 0, none⟩, 0, rfl, Nat.le_refl _, .inl rfl, .inl rfl⟩⟩
      intro μ b d cs h; cases h
    · have hpos : 0 < zs.length := by omega
      -- the block
      have hc0 := h4 0 hpos
      simp only [Addr.add, if_true] at hc0
      unfold World.cell? at hc0
      split at hc0
      · rename_i c e fz hblk
        have hsp : x.spot = none := by
          cases hs : x.spot with
          | none => rfl
          | some y => rw [hs] at hc0; simp at hc0
        have hcells : ∀ j, j < zs.length → c[x.off + j]? = some (.int k (zs.getD j 0)) := by
          intro j hj
          have := h4 j hj
          unfold World.cell? at this
          by_cases hj0 : j = 0
          · subst hj0
            simp only [Addr.add, if_true, hblk, hsp, Option.isSome_none, Bool.false_eq_true, if_false] at this
            exact this
          · simp only [Addr.add, if_neg hj0, hblk, Option.isSome_none, Bool.false_eq_true, if_false] at this
            exact this
        have hsize : x.off + zs.length ≤ c.size := by
          have := hcells (zs.length - 1) (by omega)
          rcases Nat.lt_or_ge (x.off + (zs.length - 1)) c.size with h | h
          · omega
          · rw [Array.getElem?_eq_none h] at this; cases this
        have hcut : (c.toList.drop x.off).take zs.length = zs.map (.int k) := by
          refine List.ext_getElem? fun j => ?_
          rw [List.getElem?_take]
          split
          · rename_i hj
            rw [List.getElem?_drop, Array.getElem?_toList, hcells j hj, List.getElem?_map, List.getD_eq_getElem?_getD, List.getElem?_eq_getElem hj]
            rfl
          · rename_i hj
            rw [List.getElem?_eq_none (by simp; omega)]
        refine ⟨some (x.block, x.off, zs.map (.int k)), .slice (some ⟨i, 0, none⟩) len cap, fun μ b d cs h => ?_, fun μ hμ => ?_, by simp; omega, fun R hR A S H => ?_⟩
        · cases h
          refine ⟨c, e, fz, hblk, ?_, fun y hy => ?_, by simpa using hsize⟩
          · rw [List.length_map, hcut]; exact lrefl μ zs
          · obtain ⟨n, _, rfl⟩ := List.mem_map.1 hy; rfl
        · have : some x = some (⟨x.block, 0 + x.off, none⟩ : Addr) := by
            obtain ⟨b, o, s⟩ := x
            simp only at hsp
            subst hsp
            simp
          rw [this]
          exact .slice (hμ _ _ _ rfl)
        · obtain ⟨k1, k2⟩ := H.ro i _ (hR _ _ _ rfl)
          refine ⟨by simp; omega, some ⟨i, 0, none⟩, cap, rfl, h1, .inl rfl, .inr ⟨true, _, k1, k2, by simp; omega, ?_⟩⟩
          simp [List.map_take]
      · cases hc0

/-- Numbers of any kind. -/
theorem rin_int {R : Nat → Option (List Value)} {v : Value} {l : List Int} (h : ∀ A S, St R A S → Rd S 1 l.length v (l.map (.int .i64))) : RIn R v l := by
  intro A S H
  have := h A S H
  have e : l.map (Value.int .i64) = encs l := by
    clear this h
    induction l with
    | nil => rfl
    | cons x l ih => rw [encs_cons, List.map_cons, ih]; rfl
  rw [e] at this
  exact this

end Go.Ax

