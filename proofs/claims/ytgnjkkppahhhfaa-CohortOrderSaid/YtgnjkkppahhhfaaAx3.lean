/- Part 3 of Ax. -/
import Derived.Test.YtgnjkkppahhhfaaAx2
import Derived.OpenShut
import Derived.ChangeOld
set_option linter.unusedVariables false
set_option linter.unusedSimpArgs false
set_option linter.unnecessarySimpa false
/- Rules and lemmas by which code is walked without a word for each step. -/
namespace Go.Ax
open Enc (enc)

section rules
variable {Γ : Fns} {ρ ρ' ρ2 : Env} {S S' : AS} {Q : AExit → Env → AS → Prop} {a b c : ACode} {live : List Nat} {ops : List AOper} {id : Nat}

theorem end_reg (hΓ : LeF Γ Γ) (h : wpE Γ (.seq (.reg live ops) .skip) ρ S Q) : wpE Γ (.reg live ops) ρ S Q := go_end h hΓ
theorem end_dreg {ops : List (AOper × List Nat)} (hΓ : LeF Γ Γ) (h : wpE Γ (.seq (.dreg live ops) .skip) ρ S Q) : wpE Γ (.dreg live ops) ρ S Q := go_end h hΓ
theorem end_cond {o : Operand} (hΓ : LeF Γ Γ) (h : wpE Γ (.seq (.cond o a b) .skip) ρ S Q) : wpE Γ (.cond o a b) ρ S Q := go_end h hΓ
theorem end_block (hΓ : LeF Γ Γ) (h : wpE Γ (.seq (.block id a) .skip) ρ S Q) : wpE Γ (.block id a) ρ S Q := go_end h hΓ
theorem end_loop (hΓ : LeF Γ Γ) (h : wpE Γ (.seq (.loop a) .skip) ρ S Q) : wpE Γ (.loop a) ρ S Q := go_end h hΓ
theorem cond_t {o : Operand} (h : ev ρ o = some (.bool true)) (h1 : wpE Γ (.seq a c) ρ S Q) : wpE Γ (.seq (.cond o a b) c) ρ S Q := go_cond h (fun _ => h1) (fun h => by cases h)
theorem cond_f {o : Operand} (h : ev ρ o = some (.bool false)) (h1 : wpE Γ (.seq b c) ρ S Q) : wpE Γ (.seq (.cond o a b) c) ρ S Q := go_cond h (fun h => by cases h) (fun _ => h1)
/-- A condition that is a question. -/
theorem cond_d {o : Operand} {φ : Prop} [Decidable φ] (h : ev ρ o = some (.bool (decide φ))) (h1 : φ → wpE Γ (.seq a c) ρ S Q) (h2 : ¬φ → wpE Γ (.seq b c) ρ S Q) : wpE Γ (.seq (.cond o a b) c) ρ S Q :=
  go_cond h (fun ht => h1 (of_decide_eq_true ht)) (fun ht => h2 (of_decide_eq_false ht))
end rules

/-- What is said of a function's end, by its results. -/
def postR (rs : List ARes) (Q : Value → AS → Prop) (x : AExit) (ρ : Env) (S : AS) : Prop :=
  match x with
  | .exit _ => False
  | _ => match result ρ S rs with
    | some v => Q v S
    | none => False

theorem r_postR {rs : List ARes} {Q : Value → AS → Prop} {ρ : Env} {S : AS} {v : Value} (h : result ρ S rs = some v) (hq : Q v S) : postR rs Q .ret ρ S := by simp only [postR, h]; exact hq
theorem n_postR {rs : List ARes} {Q : Value → AS → Prop} {ρ : Env} {S : AS} {v : Value} (h : result ρ S rs = some v) (hq : Q v S) : postR rs Q .normal ρ S := by simp only [postR, h]; exact hq

theorem Ev.fnR {G : Nat → Option AFun} {X : Nat → List Value → Option Value} {f : Nat} {rs : List ARes} {c : ACode} (haf : G f = some ⟨rs, c⟩) {a : List Value} {S : AS} {Q : Value → AS → Prop} (h : wpE (Ev G X) c (argsE 0 a) S (postR rs Q)) : Ev G X f a S Q :=
  Ev.fn haf (wpE_mono (Ev.mono G X) (fun x ρ S hp => by cases x <;> exact hp) h)

theorem is_k {Γ : Fns} {ρ : Env} {S : AS} {Q : AExit → Env → AS → Prop} {b : ACode} {live : List Nat} {ops : List AOper} (h : wpE Γ (.seq (.reg live ops) b) ρ S Q) : wpE Γ (.seq (.reg live ops) b) ρ S Q := h
theorem is_dk {Γ : Fns} {ρ : Env} {S : AS} {Q : AExit → Env → AS → Prop} {b : ACode} {live : List Nat} {ops : List (AOper × List Nat)} (h : wpE Γ (.seq (.dreg live ops) b) ρ S Q) : wpE Γ (.seq (.dreg live ops) b) ρ S Q := h
theorem is_wd {Γ : Fns} {live : List Nat} {ops : List (AOper × List Nat)} {hist : List DRec} {ρ : Env} {S : AS} {b : ACode} {Q : AExit → Env → AS → Prop} (h : wpD Γ live ops hist ρ S b Q) : wpD Γ live ops hist ρ S b Q := h
theorem dk_wd {Γ : Fns} {ρ : Env} {S : AS} {Q : AExit → Env → AS → Prop} {b : ACode} {live : List Nat} {ops : List (AOper × List Nat)} (h : wpD Γ live ops [] ρ S b Q) : wpE Γ (.seq (.dreg live ops) b) ρ S Q := h
theorem is_rp {rs : List ARes} {Q : Value → AS → Prop} {ρ : Env} {S : AS} (h : postR rs Q .ret ρ S) : postR rs Q .ret ρ S := h
theorem is_np {rs : List ARes} {Q : Value → AS → Prop} {ρ : Env} {S : AS} (h : postR rs Q .normal ρ S) : postR rs Q .normal ρ S := h

theorem cast0 : ((0 : Nat) : Int) = 0 := rfl
theorem cast1 : ((1 : Nat) : Int) = 1 := rfl
theorem cast2 : ((2 : Nat) : Int) = 2 := rfl

/-- The operations of a region up to the first call that is wanted. -/
def runC : List AOper → Env → AS → Option (Env × AS × List AOper)
  | [], _, _ => none
  | o :: r, ρ, S => match o.op.isCall, wantA ρ o.guard with
    | true, some true => some (ρ, S, o :: r)
    | _, _ => match run1 o ρ S with
      | some (ρ', S') => runC r ρ' S'
      | none => none

theorem runC_spec : ∀ {l : List AOper} {ρ ρ' : Env} {S S' : AS} {r : List AOper}, runC l ρ S = some (ρ', S', r) → ∃ k, runN k l ρ S = some (ρ', S', r)
  | [], ρ, ρ', S, S', r, h => by simp [runC] at h
  | o :: l, ρ, ρ', S, S', r, h => by
    simp only [runC] at h
    split at h
    · exact ⟨0, h⟩
    · split at h
      · rename_i ρ1 S1 h1
        obtain ⟨k, hk⟩ := runC_spec h
        exact ⟨k + 1, by simp only [runN, h1]; exact hk⟩
      · cases h

theorem go_callC {Γ : Fns} {ρ ρ' : Env} {S S' : AS} {Q : AExit → Env → AS → Prop} {b : ACode} {live : List Nat} {ops : List AOper} (r : Option (Env × AS × List AOper)) {o : AOper} {rest : List AOper} {f : Operand} {args : List Operand} {id : FuncId} {first cap : Array Value} {vs : List Value}
    (h : runC ops ρ S = r) (hr : r = some (ρ', S', o :: rest)) (ho : o.op = .call f args) (hw : wantA ρ' o.guard = some true) (hf : ev ρ' f = some (.func (.func id) first cap)) (hv : evs ρ' args = some vs)
    (hq : Γ id (first.toList ++ vs ++ cap.toList) S' fun v S'' => wpE Γ (.seq (.reg live rest) b) (putE ρ' o.dst v) S'' Q) : wpE Γ (.seq (.reg live ops) b) ρ S Q := by
  subst hr
  obtain ⟨k, hk⟩ := runC_spec h
  exact go_callN k _ hk rfl ho hw hf hv hq

/-- The same where the order is open. -/
def runDC : List (AOper × List Nat) → List DRec → Env → AS → Option (List DRec × Env × AS × List (AOper × List Nat))
  | [], _, _, _ => none
  | (o, U) :: r, hist, ρ, S => match o.op.isCall, wantA ρ o.guard with
    | true, some true => some (hist, ρ, S, (o, U) :: r)
    | _, _ => match run1d o U hist ρ S with
      | some (hist', ρ', S') => runDC r hist' ρ' S'
      | none => none

theorem runDC_spec : ∀ {l : List (AOper × List Nat)} {hist hist' : List DRec} {ρ ρ' : Env} {S S' : AS} {r : List (AOper × List Nat)}, runDC l hist ρ S = some (hist', ρ', S', r) → ∃ k, runDN k l hist ρ S = some (hist', ρ', S', r)
  | [], hist, hist', ρ, ρ', S, S', r, h => by simp [runDC] at h
  | (o, U) :: l, hist, hist', ρ, ρ', S, S', r, h => by
    simp only [runDC] at h
    split at h
    · exact ⟨0, h⟩
    · split at h
      · rename_i h0 ρ1 S1 h1
        obtain ⟨k, hk⟩ := runDC_spec h
        exact ⟨k + 1, by simp only [runDN, h1]; exact hk⟩
      · cases h

theorem runC_nil (ρ : Env) (S : AS) : runC [] ρ S = none := rfl
theorem beq_dec (a b : Int) : (a == b) = decide (a = b) := by
  by_cases h : a = b <;> simp [h]
theorem bne_dec (a b : Int) : (a != b) = decide (¬ a = b) := by
  by_cases h : a = b <;> simp [h]

section cells
variable {S : AS} {b b' o n : Nat} {cs : List Value} {v : Value} {ro : Bool}

theorem get1 (h : S.h b = some (.cells ro cs)) (o : Nat) : getCells S b o 1 = (cs[o]?).map fun v => [v] := by
  simp only [getCells, h]
  rcases Nat.lt_or_ge o cs.length with ho | ho
  · rw [if_pos (by omega), List.getElem?_eq_getElem ho, List.drop_eq_getElem_cons ho]; rfl
  · rw [if_neg (by omega), List.getElem?_eq_none ho]; rfl

theorem set1 (h : S.h b = some (.cells false cs)) (o : Nat) (v : Value) : setCells S b o [v] = (cs[o]?).map fun _ => S.set b (some (.cells false (cs.set o v))) := by
  simp only [setCells, h]
  rcases Nat.lt_or_ge o cs.length with ho | ho
  · rw [if_pos (by simp; omega), List.getElem?_eq_getElem ho, List.set_eq_take_append_cons_drop, if_pos ho]; simp
  · rw [if_neg (by simp; omega), List.getElem?_eq_none ho]; rfl

theorem getAll (h : S.h b = some (.cells ro cs)) (hn : cs.length = n) : getCells S b 0 n = some cs := by
  simp only [getCells, h]
  rw [if_pos (by omega), ← hn]
  simp

theorem set_set (S : AS) (b : Nat) (x y : Option AObj) : (S.set b x).set b y = S.set b y := by
  unfold AS.set
  congr 1
  funext j
  simp only
  split <;> rfl

theorem get1_set (S : AS) (b o : Nat) (ro : Bool) (cs : List Value) : getCells (S.set b (some (.cells ro cs))) b o 1 = (cs[o]?).map fun v => [v] := get1 (by rw [set_h, if_pos rfl]) o
theorem set1_set (S : AS) (b o : Nat) (cs : List Value) (v : Value) : setCells (S.set b (some (.cells false cs))) b o [v] = (cs[o]?).map fun _ => S.set b (some (.cells false (cs.set o v))) := by
  rw [set1 (cs := cs) (by rw [set_h, if_pos rfl])]; simp only [set_set]
theorem get_set_ne (x : Option AObj) (h : b' ≠ b) : getCells (S.set b x) b' o n = getCells S b' o n := by simp only [getCells, set_h, if_neg h]
theorem get_new_ne (x : AObj) (h : b' ≠ S.nx) : getCells (S.new x) b' o n = getCells S b' o n := by simp only [getCells, new_h, if_neg h]
theorem get1_new (S : AS) (o : Nat) (ro : Bool) (cs : List Value) : getCells (S.new (.cells ro cs)) S.nx o 1 = (cs[o]?).map fun v => [v] := get1 (by rw [new_h, if_pos rfl]) o
theorem set1_new (S : AS) (o : Nat) (cs : List Value) (v : Value) : setCells (S.new (.cells false cs)) S.nx o [v] = (cs[o]?).map fun _ => (S.new (.cells false (cs.set o v))) := by
  rw [set1 (cs := cs) (by rw [new_h, if_pos rfl])]
  congr 1
  funext _
  unfold AS.set AS.new
  congr 1
  funext j
  simp only
  split <;> rfl
theorem setAll {vs : List Value} (h : S.h b = some (.cells false cs)) (hn : vs.length = cs.length) : setCells S b 0 vs = some (S.set b (some (.cells false vs))) := by
  simp only [setCells, h]
  rw [if_pos (by omega), hn]
  simp
theorem setAll_new {vs : List Value} (hn : vs.length = cs.length) : setCells (S.new (.cells false cs)) S.nx 0 vs = some (S.new (.cells false vs)) := by
  rw [setAll (cs := cs) (by rw [new_h, if_pos rfl]) hn]
  congr 1
  unfold AS.set AS.new
  congr 1
  funext j
  simp only
  split <;> rfl
theorem src_new {cs : List Value} {esz n c : Nat} {q : Option Nat} {ro : Bool} (h : cs.length = n * esz) : srcCells (S.new (.cells ro cs)) esz (.slice (some ⟨S.nx, 0, q⟩) n c) = some cs := by
  cases n with
  | zero =>
    have : cs = [] := List.eq_nil_of_length_eq_zero (by simpa using h)
    subst this; rfl
  | succ n =>
    simp only [srcCells, getCells, new_h, if_true]
    rw [if_pos (by omega), ← h]
    simp
theorem src_len (a : Option Addr) (n c : Nat) : Ax.srcLen (.slice a n c) = n := rfl
/-- No id is in an empty range. -/
theorem no_range (n i : Nat) : (decide (n ≤ i) && decide (i < n)) = false := by
  by_cases h : n ≤ i
  · have : ¬ i < n := by omega
    simp [this]
  · simp [h]
theorem in_range {lo i hi : Nat} (h : i < lo) : (decide (lo ≤ i) && decide (i < hi)) = false := by
  have : ¬ lo ≤ i := by omega
  simp [this]
end cells

theorem fillL_nil (z : List Value) : fillL z [] = some z := rfl
theorem fillL_cons (z : List Value) (off n : Nat) (v : Value) (r : List (Nat × Nat × Value)) : fillL z ((off, n, v) :: r) = if okV v = true ∧ v.cells.toList.length = n ∧ off + n ≤ z.length then fillL (z.take off ++ v.cells.toList ++ z.drop (off + n)) r else none := rfl

section shape
variable {R : Nat → Option (List Value)} {A : List Asn} {S S' : AS} {α : Type} {esz : Nat} [Enc α esz] {v : Value} {l : List α}

/-- An element, read whole. -/
theorem RdT.at (h : RdT S v l) {k : Nat} (hk : k < l.length) (kd : IntKind) : ∃ b a, idxSl esz v (.int kd k) = some (.pointer (some ⟨b, a, none⟩)) ∧ b < S.nx ∧ getCells S b a esz = some (enc l[k]) ∧ ∀ off x, off < esz → (enc l[k])[off]? = some x → getCells S b (a + off) 1 = some [x] := by
  obtain ⟨b, a, h1, h2, h3, h4⟩ := RdT.idx h hk kd
  refine ⟨b, a, h1, h2, ?_, fun off x ho hx => ?_⟩
  · rw [h4 esz (Nat.le_refl _), List.take_of_length_le (by rw [Enc.len]; exact Nat.le_refl _)]
  · rw [h3 off 1 (by omega)]
    have hlt : off < (enc l[k]).length := by rw [Enc.len]; exact ho
    rw [List.getElem?_eq_getElem hlt] at hx
    rw [List.drop_eq_getElem_cons hlt, Option.some.inj hx]
    rfl

theorem RdT.shape (h : RdT S v l) : ∃ a c, v = .slice a l.length c := by
  obtain ⟨_, a, c, rfl, _⟩ := h; exact ⟨a, c, rfl⟩
theorem SlT.shape (h : St R (SlT v l :: A) S) : ∃ a c, v = .slice a l.length c := (SlT.read h).shape
end shape

/-- A round of a loop. -/
theorem unroll {G : Nat → Option AFun} {X : Nat → List Value → Option Value} {a b : ACode} {ρ : Env} {S : AS} {Q : AExit → Env → AS → Prop} (h : wpE (Ev G X) a ρ S (thenK (fun ρ' S' => wpE (Ev G X) (.seq (.loop a) b) ρ' S' Q) (thenK (fun ρ' S' => wpE (Ev G X) b ρ' S' Q) Q))) : wpE (Ev G X) (.seq (.loop a) b) ρ S Q := by
  obtain ⟨K, hK⟩ : ∃ K, K = thenK (fun ρ' S' => wpE (Ev G X) b ρ' S' Q) Q := ⟨_, rfl⟩
  have hm : LeF (Ev G X) (Ev G X) := Ev.mono G X
  obtain ⟨k, hk⟩ := wpE_cpt (Ev.cpt G X) (fun k k' h => wpF_mono G X h) hm (K := fun n => thenK (fun ρ' S' => wpLoop (wpE (Ev G X) a) n ρ' S' K) K)
    (fun k k' x ρ' S' hle hh => thenK_mono (fun ρ S h => wpLoop_mono (b := wpE (Ev G X) a) (b' := wpE (Ev G X) a) (fun ρ S K K' h hw => wpE_mono hm h hw) (fun _ _ _ h => h) hle h) (fun _ _ _ h => h) x ρ' S' hh)
    (c := a) (ρ := ρ) (S := S) (wpE_mono hm (fun x ρ' S' hh => by
      cases x with
      | normal =>
        simp only [thenK, wpE] at hh ⊢
        rw [← hK] at hh
        exact hh
      | exit id => rw [← hK] at hh; exact ⟨0, hh⟩
      | ret => rw [← hK] at hh; exact ⟨0, hh⟩) h)
  have hle : LeF (wpF G X k) (Ev G X) := fun f a S Q Q' hq hw => Ev.mono G X f a S Q Q' hq ⟨k, hw⟩
  refine ⟨k + 1, ?_⟩
  simp only [wpLoop]
  rw [← hK]
  refine wpE_mono hle (fun x ρ' S' hh => ?_) (wpC_wpE (wpF_mono G X (Nat.le_refl _)) hk)
  cases x <;> exact hh

theorem go_unassoc {Γ : Fns} (hΓ : LeF Γ Γ) {a b c : ACode} {ρ : Env} {S : AS} {Q : AExit → Env → AS → Prop} (h : wpE Γ (.seq (.seq a b) c) ρ S Q) : wpE Γ (.seq a (.seq b c)) ρ S Q := by
  simp only [wpE] at *
  refine wpE_mono hΓ (fun x ρ S hh => ?_) h
  cases x <;> exact hh

/-- What stands between two pieces of code. -/
theorem go_cut {Γ : Fns} (hΓ : LeF Γ Γ) {a b : ACode} {ρ : Env} {S : AS} {Q : AExit → Env → AS → Prop} (N : Env → AS → Prop) (h1 : wpE Γ a ρ S (thenK N Q)) (h2 : ∀ ρ' S', N ρ' S' → wpE Γ b ρ' S' Q) : wpE Γ (.seq a b) ρ S Q := by
  simp only [wpE]
  exact wpE_mono hΓ (thenK_mono h2 (fun _ _ _ h => h)) h1

theorem nilP0 (b : Option Addr) : nilEq .ptr (.pointer none) (.pointer b) = some b.isNone := rfl
theorem nilP1 (a : Addr) : nilEq .ptr (.pointer (some a)) (.pointer none) = some false := rfl
theorem nilS0 (l c l' c' : Nat) (b : Option Addr) : nilEq .slice (.slice none l c) (.slice b l' c') = some b.isNone := rfl
theorem nilS1 (a : Addr) (l c l' c' : Nat) : nilEq .slice (.slice (some a) l c) (.slice none l' c') = some false := rfl
theorem nilM0 (b : Option Nat) : nilEq .map (.map none) (.map b) = some b.isNone := rfl
theorem nilM1 (a : Nat) : nilEq .map (.map (some a)) (.map none) = some false := rfl
theorem nilF0 : nilEq .func .nilFunc .nilFunc = some true := rfl
theorem nilF1 (f : Fn) (a c : Array Value) : nilEq .func (.func f a c) .nilFunc = some false := rfl
theorem lenV_sl (S : AS) (a : Option Addr) (n c : Nat) : lenV .sl S (.slice a n c) = some (.int .i64 n) := rfl

theorem join_hide (S : AS) (hid : List Nat) : S.join hid (S.hide hid) = S := by
  have : (S.join hid (S.hide hid)).h = S.h := by
    funext i
    simp only [AS.join, hide_h]
    by_cases h : hid.contains i = true
    · rw [if_pos (by rw [h]; rfl)]
    · rw [if_neg h, ite_self]
  cases S
  simp only [AS.join] at this ⊢
  simp only [AS.hide] at this ⊢
  congr 1

/-- A call that sees no memory, and leaves it. -/
theorem go_dcallP {Γ : Fns} {ρ ρ' : Env} {S S' : AS} {Q : AExit → Env → AS → Prop} {b : ACode} {live : List Nat} {ops : List (AOper × List Nat)} {hist hist' : List DRec} (k : Nat) (r : Option (List DRec × Env × AS × List (AOper × List Nat))) {o : AOper} {U : List Nat} {rest : List (AOper × List Nat)} {f : Operand} {args : List Operand} {id : FuncId} {first cap : Array Value} {vs : List Value} {v : Value}
    (h : runDN k ops hist ρ S = r) (hr : r = some (hist', ρ', S', (o, U) :: rest)) (ho : o.op = .call f args) (hw : wantA ρ' o.guard = some true) (hf : ev ρ' f = some (.func (.func id) first cap)) (hv : evs ρ' args = some vs)
    (hp : ∀ T (K : Value → AS → Prop), K v T → Γ id (first.toList ++ vs ++ cap.toList) T K)
    (hq : wpD Γ live rest (hist' ++ [DRec.none]) (putE ρ' o.dst v) S' b Q) : wpD Γ live ops hist ρ S b Q := by
  refine go_dcall k r h hr ho hw hf hv (hp _ _ ?_)
  rw [join_hide]
  exact hq

theorem hide_nil (S : AS) : S.hide [] = S := by
  cases S; simp [AS.hide]

theorem join_nil {S S1 : AS} (h : Gr S S1) : S.join [] S1 = S1 := by
  have : (S.join [] S1).h = S1.h := by
    funext i
    simp only [AS.join, List.contains_nil, Bool.false_or]
    by_cases hc : (S.roAt i && decide (i < S.nx)) = true
    · rw [if_pos hc]
      simp only [Bool.and_eq_true, decide_eq_true_eq] at hc
      cases hi : S.h i with
      | none => simp only [AS.roAt, hi] at hc; cases hc.1
      | some o =>
        simp only [AS.roAt, hi] at hc
        exact (h.ro i o hc.2 hi hc.1).symm
    · rw [if_neg hc]
  cases S1
  simp only [AS.join] at this ⊢
  congr 1

/-- A call from which nothing is hidden. -/
theorem go_dcall0 {G : Nat → Option AFun} {X : Nat → List Value → Option Value} {ρ ρ' : Env} {S S' : AS} {Q : AExit → Env → AS → Prop} {b : ACode} {live : List Nat} {ops : List (AOper × List Nat)} {hist hist' : List DRec} (k : Nat) (r : Option (List DRec × Env × AS × List (AOper × List Nat))) {o : AOper} {U : List Nat} {rest : List (AOper × List Nat)} {f : Operand} {args : List Operand} {id : FuncId} {first cap : Array Value} {vs : List Value}
    (h : runDN k ops hist ρ S = r) (hr : r = some (hist', ρ', S', (o, U) :: rest)) (ho : o.op = .call f args) (hw : wantA ρ' o.guard = some true) (hf : ev ρ' f = some (.func (.func id) first cap)) (hv : evs ρ' args = some vs) (hh : hidden S' (recs hist' U) = [])
    (hq : Ev G X id (first.toList ++ vs ++ cap.toList) S' fun v S1 => wpD (Ev G X) live rest (hist' ++ [DRec.none]) (putE ρ' o.dst v) S1 b Q) : wpD (Ev G X) live ops hist ρ S b Q := by
  refine go_dcall k r h hr ho hw hf hv ?_
  rw [hh, hide_nil]
  refine Ev.mono G X _ _ _ _ _ ?_ (Ev.nx _ _ _ _ hq)
  rintro v S1 ⟨h1, h2⟩
  rw [join_nil h2]
  exact h1

section dcalls
variable {G : Nat → Option AFun} {X : Nat → List Value → Option Value} {R : Nat → Option (List Value)} {ρ ρ' : Env} {S S' : AS} {Q : AExit → Env → AS → Prop} {b : ACode} {live : List Nat} {ops : List (AOper × List Nat)} {hist hist' : List DRec}
  {o : AOper} {U : List Nat} {rest : List (AOper × List Nat)} {f : Operand} {args : List Operand} {id : FuncId} {first cap : Array Value} {vs : List Value}

theorem go_dcall0C (r : Option (List DRec × Env × AS × List (AOper × List Nat)))
    (h : runDC ops hist ρ S = r) (hr : r = some (hist', ρ', S', (o, U) :: rest)) (ho : o.op = .call f args) (hw : wantA ρ' o.guard = some true) (hf : ev ρ' f = some (.func (.func id) first cap)) (hv : evs ρ' args = some vs) (hh : hidden S' (recs hist' U) = [])
    (hq : Ev G X id (first.toList ++ vs ++ cap.toList) S' fun v S1 => wpD (Ev G X) live rest (hist' ++ [DRec.none]) (putE ρ' o.dst v) S1 b Q) : wpD (Ev G X) live ops hist ρ S b Q := by
  subst hr
  obtain ⟨k, hk⟩ := runDC_spec h
  exact go_dcall0 k _ hk rfl ho hw hf hv hh hq

theorem go_dcallPC {v : Value} (r : Option (List DRec × Env × AS × List (AOper × List Nat)))
    (h : runDC ops hist ρ S = r) (hr : r = some (hist', ρ', S', (o, U) :: rest)) (ho : o.op = .call f args) (hw : wantA ρ' o.guard = some true) (hf : ev ρ' f = some (.func (.func id) first cap)) (hv : evs ρ' args = some vs)
    (hp : ∀ T (K : Value → AS → Prop), K v T → Ev G X id (first.toList ++ vs ++ cap.toList) T K)
    (hq : wpD (Ev G X) live rest (hist' ++ [DRec.none]) (putE ρ' o.dst v) S' b Q) : wpD (Ev G X) live ops hist ρ S b Q := by
  subst hr
  obtain ⟨k, hk⟩ := runDC_spec h
  exact go_dcallP k _ hk rfl ho hw hf hv hp hq

theorem go_dcallSC (r : Option (List DRec × Env × AS × List (AOper × List Nat)))
    (h : runDC ops hist ρ S = r) (hr : r = some (hist', ρ', S', (o, U) :: rest)) (ho : o.op = .call f args) (hw : wantA ρ' o.guard = some true) (hf : ev ρ' f = some (.func (.func id) first cap)) (hv : evs ρ' args = some vs)
    (hid : List Nat) (hh : hidden S' (recs hist' U) = hid) (ps : List Asn) (es : List Asn) (A : List Asn) (H : St R (ps ++ es ++ A) S') (he : ∀ i ∈ hid, ∃ o, obj i o ∈ es)
    (hq : ∀ E : Asn, ∀ T, St R (ps ++ [E]) T → Ev G X id (first.toList ++ vs ++ cap.toList) T fun v S1 => ∃ qs, St R (qs ++ [E]) S1 ∧ ∀ J, St R (qs ++ es ++ A) J → wpD (Ev G X) live rest (hist' ++ [DRec.none]) (putE ρ' o.dst v) J b Q) : wpD (Ev G X) live ops hist ρ S b Q := by
  subst hr
  obtain ⟨k, hk⟩ := runDC_spec h
  exact go_dcallS k _ hk rfl ho hw hf hv hid hh ps es A H he hq
end dcalls

/-- An input: it can be read for good. -/
def RIn {α : Type} {esz : Nat} [Enc α esz] (R : Nat → Option (List Value)) (v : Value) (l : List α) : Prop := ∀ A S, St R A S → RdT S v l

theorem enc_int (n : Int) : enc n = [.int .i64 n] := rfl

theorem RIn.rd {α : Type} {esz : Nat} [Enc α esz] {R : Nat → Option (List Value)} {v : Value} {l : List α} (h : RIn R v l) {A : List Asn} {S : AS} (H : St R A S) : RdT S v l := h A S H
theorem RIn.len {α : Type} {esz : Nat} [Enc α esz] {R : Nat → Option (List Value)} {v : Value} {l : List α} (h : RIn R v l) {A : List Asn} {S : AS} (H : St R A S) (S' : AS) : lenV .sl S' v = some (.int .i64 l.length) := (h A S H).len S'

theorem RIn.shape {α : Type} {esz : Nat} [Enc α esz] {R : Nat → Option (List Value)} {v : Value} {l : List α} (h : RIn R v l) {A : List Asn} {S : AS} (H : St R A S) : ∃ a c, v = .slice a l.length c := RdT.shape (h A S H)

theorem RIn.slice {α : Type} {esz : Nat} [Enc α esz] {R : Nat → Option (List Value)} {v : Value} {l : List α} (h : RIn R v l) {A : List Asn} {S : AS} (H : St R A S) {lo hi : Nat} (h1 : lo ≤ hi) (h2 : hi ≤ l.length) (x y : Option Value) (hx : x = none ∧ lo = 0 ∨ ∃ k, x = some (.int k lo)) (hy : y = none ∧ hi = l.length ∨ ∃ k, y = some (.int k hi)) :
    ∃ v', sliceV esz v x y none = some v' ∧ RIn R v' ((l.drop lo).take (hi - lo)) := by
  obtain ⟨v', h3, _⟩ := RdT.slice (h A S H) h1 h2 x y hx hy
  refine ⟨v', h3, fun A' S' H' => ?_⟩
  obtain ⟨v'', h4, h5⟩ := RdT.slice (h A' S' H') h1 h2 x y hx hy
  rw [h3] at h4; cases h4
  exact h5

/-- What a law says, where its closed example is known. -/
def Law (G : Nat → Option AFun) (X : Nat → List Value → Option Value) (f : Nat) (args : List Value) (R : Nat → Option (List Value)) : Prop := ∀ F S, St R F S → Ev G X f args S fun v _ => v = .bool true

/-- The machine's numbers. -/
def I64 (n : Int) : Prop := -9223372036854775808 ≤ n ∧ n ≤ 9223372036854775807
theorem wrapI {n : Int} (h : I64 n) : IntKind.wrap .i64 n = n := wrap64 h.1 h.2

theorem mid_get {pre c post : List Value} {k : Nat} (hk : k < c.length) : (pre ++ c ++ post)[pre.length + k]? = c[k]? := by
  rw [List.append_assoc, List.getElem?_append_right (Nat.le_add_right _ _), Nat.add_sub_cancel_left, List.getElem?_append_left hk]
theorem mid_get0 {pre c post : List Value} (hk : 0 < c.length) : (pre ++ c ++ post)[pre.length]? = c[0]? := mid_get (k := 0) hk
theorem mid_set {pre c post : List Value} {k : Nat} (hk : k < c.length) (v : Value) : (pre ++ c ++ post).set (pre.length + k) v = pre ++ c.set k v ++ post := by
  rw [List.append_assoc, List.set_append_right _ _ (Nat.le_add_right _ _), Nat.add_sub_cancel_left, List.set_append_left _ _ hk, List.append_assoc]
theorem mid_set0 {pre c post : List Value} (hk : 0 < c.length) (v : Value) : (pre ++ c ++ post).set pre.length v = pre ++ c.set 0 v ++ post := mid_set (k := 0) hk v

/-- The lemmas by which each step is reckoned out. -/
theorem axL : type_of% (And.intro @mid_get <| And.intro @mid_get0 <| And.intro @mid_set <| And.intro @mid_set0 <| And.intro @ne_eq.{1} <| And.intro @Option.map_some.{0, 0} <|
  And.intro @Option.map_none.{0, 0} <|
  And.intro @Option.getD_some.{0} <|
  And.intro @Option.getD_none.{0} <|
  And.intro @Option.isNone_some.{0} <|
  And.intro @Option.isNone_none.{0} <|
  And.intro @bq_t <|
  And.intro @bq_f <|
  And.intro @beq_dec <|
  And.intro @bne_dec <|
  And.intro @Bool.not_true <|
  And.intro @Bool.not_false <|
  And.intro @Bool.false_eq_true <|
  And.intro @Bool.true_eq_false <|
  And.intro @decide_true <|
  And.intro @decide_false <|
  And.intro @List.size_toArray.{0} <|
  And.intro @List.length_cons.{0} <|
  And.intro @List.length_nil.{0} <|
  And.intro @and_self <|
  And.intro @and_true <|
  And.intro @true_and <|
  And.intro @List.getElem?_cons_zero.{0} <|
  And.intro @List.getElem?_cons_succ.{0} <|
  And.intro @List.set_cons_zero.{0} <|
  And.intro @List.set_cons_succ.{0} <|
  And.intro @get1_set <|
  And.intro @set1_set <|
  And.intro @get1_new <|
  And.intro @setAll_new <|
  And.intro @lenV_sl <|
  And.intro @enc_int <|
  And.intro @nilP0 <|
  And.intro @nilP1 <|
  And.intro @nilS0 <|
  And.intro @nilS1 <|
  And.intro @nilM0 <|
  And.intro @nilM1 <|
  And.intro @nilF0 <|
  And.intro @nilF1 <|
  And.intro @set_set <|
  And.intro @src_len <|
  And.intro @List.getElem?_toArray.{0} <|
  And.intro @gt_iff_lt.{0} <|
  And.intro @ge_iff_le.{0} <|
  And.intro @List.drop_zero.{0} <|
  And.intro @List.drop_succ_cons.{0} <|
  And.intro @List.take_zero.{0} <|
  And.intro @List.take_succ_cons.{0} <|
  And.intro @List.nil_append.{0} <|
  And.intro @List.cons_append.{0} <|
  And.intro @List.append_nil.{0} <|
  And.intro @fillL_nil <|
  And.intro @fillL_cons <|
  And.intro @Nat.zero_add <|
  And.intro @Nat.add_zero <|
  And.intro @Nat.le_refl <|
  And.intro @cast0 <|
  And.intro @cast1 <|
  And.intro @cast2 <|
  And.intro @Int.toNat_zero <|
  And.intro @Int.toNat_one <|
  And.intro @not_true_eq_false <|
  And.intro @not_false_eq_true <|
  And.intro @Bool.bne_false <|
  @Bool.bne_true) := And.intro @mid_get <| And.intro @mid_get0 <| And.intro @mid_set <| And.intro @mid_set0 <| And.intro @ne_eq.{1} <| And.intro @Option.map_some.{0, 0} <|
  And.intro @Option.map_none.{0, 0} <|
  And.intro @Option.getD_some.{0} <|
  And.intro @Option.getD_none.{0} <|
  And.intro @Option.isNone_some.{0} <|
  And.intro @Option.isNone_none.{0} <|
  And.intro @bq_t <|
  And.intro @bq_f <|
  And.intro @beq_dec <|
  And.intro @bne_dec <|
  And.intro @Bool.not_true <|
  And.intro @Bool.not_false <|
  And.intro @Bool.false_eq_true <|
  And.intro @Bool.true_eq_false <|
  And.intro @decide_true <|
  And.intro @decide_false <|
  And.intro @List.size_toArray.{0} <|
  And.intro @List.length_cons.{0} <|
  And.intro @List.length_nil.{0} <|
  And.intro @and_self <|
  And.intro @and_true <|
  And.intro @true_and <|
  And.intro @List.getElem?_cons_zero.{0} <|
  And.intro @List.getElem?_cons_succ.{0} <|
  And.intro @List.set_cons_zero.{0} <|
  And.intro @List.set_cons_succ.{0} <|
  And.intro @get1_set <|
  And.intro @set1_set <|
  And.intro @get1_new <|
  And.intro @setAll_new <|
  And.intro @lenV_sl <|
  And.intro @enc_int <|
  And.intro @nilP0 <|
  And.intro @nilP1 <|
  And.intro @nilS0 <|
  And.intro @nilS1 <|
  And.intro @nilM0 <|
  And.intro @nilM1 <|
  And.intro @nilF0 <|
  And.intro @nilF1 <|
  And.intro @set_set <|
  And.intro @src_len <|
  And.intro @List.getElem?_toArray.{0} <|
  And.intro @gt_iff_lt.{0} <|
  And.intro @ge_iff_le.{0} <|
  And.intro @List.drop_zero.{0} <|
  And.intro @List.drop_succ_cons.{0} <|
  And.intro @List.take_zero.{0} <|
  And.intro @List.take_succ_cons.{0} <|
  And.intro @List.nil_append.{0} <|
  And.intro @List.cons_append.{0} <|
  And.intro @List.append_nil.{0} <|
  And.intro @fillL_nil <|
  And.intro @fillL_cons <|
  And.intro @Nat.zero_add <|
  And.intro @Nat.add_zero <|
  And.intro @Nat.le_refl <|
  And.intro @cast0 <|
  And.intro @cast1 <|
  And.intro @cast2 <|
  And.intro @Int.toNat_zero <|
  And.intro @Int.toNat_one <|
  And.intro @not_true_eq_false <|
  And.intro @not_false_eq_true <|
  And.intro @Bool.bne_false <|
  @Bool.bne_true

/-- The same for regions whose order is open. -/
theorem axD : type_of% (And.intro @List.map_nil.{0, 0} <|
  And.intro @List.map_cons.{0, 0} <|
  And.intro @List.all_nil.{0} <|
  And.intro @List.all_cons.{0} <|
  And.intro @List.getD_cons_zero.{0} <|
  And.intro @List.getD_cons_succ.{0} <|
  And.intro @List.getD_nil.{0} <|
  And.intro @Bool.and_true <|
  And.intro @Bool.true_and <|
  And.intro @Bool.false_and <|
  And.intro @Bool.and_false <|
  And.intro @Bool.or_false <|
  And.intro @Bool.or_true <|
  And.intro @Bool.false_or <|
  And.intro @Bool.and_self <|
  And.intro @Bool.or_self <|
  And.intro @if_true.{0} <|
  And.intro @no_range <|
  And.intro @List.contains_cons.{0} <|
  And.intro @List.contains_nil.{0} <|
  @List.elem_nil.{0}) := And.intro @List.map_nil.{0, 0} <|
  And.intro @List.map_cons.{0, 0} <|
  And.intro @List.all_nil.{0} <|
  And.intro @List.all_cons.{0} <|
  And.intro @List.getD_cons_zero.{0} <|
  And.intro @List.getD_cons_succ.{0} <|
  And.intro @List.getD_nil.{0} <|
  And.intro @Bool.and_true <|
  And.intro @Bool.true_and <|
  And.intro @Bool.false_and <|
  And.intro @Bool.and_false <|
  And.intro @Bool.or_false <|
  And.intro @Bool.or_true <|
  And.intro @Bool.false_or <|
  And.intro @Bool.and_self <|
  And.intro @Bool.or_self <|
  And.intro @if_true.{0} <|
  And.intro @no_range <|
  And.intro @List.contains_cons.{0} <|
  And.intro @List.contains_nil.{0} <|
  @List.elem_nil.{0}

end Go.Ax

/- From a law that is walked to the program's calls: inputs that lie in memory. -/
namespace Go.Ax
open Enc (enc)
variable {P : Program}

/-- Rows of memory that came in: each a block, where in it, and its cells. -/
abbrev Rows := List (Option (Nat × Nat × List Value))

def muOf (rows : Rows) : Mu := fun i => ((rows[i]?).bind id).map fun r => (r.1, r.2.1, 0)
def roOf (rows : Rows) : Nat → Option (List Value) := fun i => ((rows[i]?).bind id).map fun r => r.2.2
def inS (rows : Rows) : AS := ⟨fun i => (roOf rows i).map fun cs => .cells true cs, rows.length⟩

/-- A row is there. -/
def RowOk (w : World) (μ : Mu) (r : Option (Nat × Nat × List Value)) : Prop :=
  ∀ b d cs, r = some (b, d, cs) → ∃ c e fz, w.heap[b]? = some (.cells c e fz) ∧ LRel μ cs ((c.toList.drop d).take cs.length) ∧ (∀ x ∈ cs, x.oneCell' = true) ∧ d + cs.length ≤ c.size

theorem rows_some {rows : Rows} {i : Nat} {cs : List Value} (h : roOf rows i = some cs) : i < rows.length ∧ ∃ b d, rows[i]? = some (some (b, d, cs)) ∧ muOf rows i = some (b, d, 0) := by
  unfold roOf at h
  cases hi : rows[i]? with
  | none => rw [hi] at h; simp at h
  | some r =>
    rw [hi] at h
    simp only [Option.bind_some, id_eq, Option.map_eq_some_iff] at h
    obtain ⟨⟨b, d, cs'⟩, h1, h2⟩ := h
    simp only at h2
    subst h2; subst h1
    refine ⟨?_, b, d, rfl, by simp [muOf, hi]⟩
    rcases Nat.lt_or_ge i rows.length with h | h
    · exact h
    · rw [List.getElem?_eq_none h] at hi; cases hi

theorem rel_in {w : World} {rows : Rows} (h : ∀ r ∈ rows, RowOk w (muOf rows) r) : Rel w.heap.size (muOf rows) (inS rows) w := by
  have hblk : ∀ i cs, roOf rows i = some cs → ∃ b d, muOf rows i = some (b, d, 0) ∧ b < w.heap.size ∧ ORel w.heap.size (muOf rows) w b d 0 (.cells true cs) := by
    intro i cs hi
    obtain ⟨hlt, b, d, h1, h2⟩ := rows_some hi
    obtain ⟨c, e, fz, k1, k2, k3, k4⟩ := h _ (List.mem_of_getElem? h1) b d cs rfl
    have hb : b < w.heap.size := by
      rcases Nat.lt_or_ge b w.heap.size with h | h
      · exact h
      · rw [Array.getElem?_eq_none h] at k1; cases k1
    exact ⟨b, d, h2, hb, c, e, fz, k1, k2, k3, (fun h => by cases h), fun _ => hb, Nat.zero_le _, k4⟩
  refine ⟨fun i o hi => ?_, fun i j o o' p q hi hj hr _ _ _ => ?_, fun i p hp => ?_, Nat.le_refl _⟩
  · simp only [inS, Option.map_eq_some_iff] at hi
    obtain ⟨cs, h1, rfl⟩ := hi
    obtain ⟨b, d, h2, h3, h4⟩ := hblk i cs h1
    exact ⟨b, d, 0, h2, h4, fun h => by cases h⟩
  · simp only [inS, Option.map_eq_some_iff] at hi
    obtain ⟨cs, h1, rfl⟩ := hi
    cases hr
  · have : ∃ cs, roOf rows i = some cs ∧ True := by
      unfold muOf at hp; unfold roOf
      rw [Option.map_eq_some_iff] at hp
      obtain ⟨r, h1, _⟩ := hp
      exact ⟨r.2.2, by rw [h1]; rfl, trivial⟩
    obtain ⟨cs, h1, _⟩ := this
    obtain ⟨b, d, h2, h3, _⟩ := hblk i cs h1
    rw [h2] at hp; cases hp
    exact h3

theorem st_in (rows : Rows) : St (roOf rows) [] (inS rows) := by
  refine ⟨trivial, fun b cs hb => ?_⟩
  exact ⟨(rows_some hb).1, by simp only [inS, hb]; rfl⟩

theorem calls_of_law {G : Nat → Option AFun} {X : Nat → List Value → Option Value} (hP : P.follows .mixedOrders = true) (hG : ∀ f af, G f = some af → FunOk P f af) (hX : XOk P X) {f : Nat} {args : List Value} {rows : Rows}
    (law : Law G X f args (roOf rows)) {args' : Array Value} (w : World) (hr : ∀ r ∈ rows, RowOk w (muOf rows) r) (ha : LRel (muOf rows) args args'.toList) :
    Calls P f args' w fun e w' => e = .returned (.bool true) ∧ RowKit.Below w.heap.size w w' := by
  obtain ⟨k, hk⟩ := law [] _ (st_in rows)
  obtain ⟨_, h2⟩ := wpF_sound (B := w.heap.size) hP hG hX k f args _ _ hk
  have hrel := rel_in hr
  refine (h2 (muOf rows) w args' hrel (fun i hi => ?_) ha).mono ?_
  · unfold muOf
    rw [List.getElem?_eq_none (by exact hi)]; rfl
  · rintro e w' ⟨v, v', μ', S', rfl, rfl, hv, hr, hf⟩
    cases hv
    exact ⟨rfl, hf.below hrel⟩

/-- A row of numbers that came in. -/
theorem int_row {w : World} {k : IntKind} {a : Option Addr} {len cap : Nat} {zs : List Int}
    (h : (a = none ∧ len = 0 ∧ cap = 0 ∧ zs = []) ∨ ∃ x, a = some x ∧ len ≤ cap ∧ cap ≤ maxLen ∧ zs.length = cap ∧ (∀ i, i < zs.length → w.cell? (x.add i) = some (.int k (zs.getD i 0))) ∧ ∀ n ∈ zs, (Lit.int k n).wf = true) (i : Nat) :
    ∃ (r : Option (Nat × Nat × List Value)) (v : Value), (∀ μ, RowOk w μ r) ∧ (∀ μ : Mu, (∀ b d cs, r = some (b, d, cs) → μ i = some (b, d, 0)) → VRel μ v (.slice a len cap)) ∧ len = (zs.take len).length ∧
      (∀ R : Nat → Option (List Value), (∀ b d cs, r = some (b, d, cs) → R i = some cs) → ∀ A S, St R A S → Rd S 1 len v ((zs.take len).map (.int k))) := by
  have lrefl : ∀ (μ : Mu) (l : List Int), LRel μ (l.map (.int k)) (l.map (.int k)) := by
    intro μ l
    induction l with
    | nil => exact .nil
    | cons x l ih => exact .cons (.int _ _) ih
  rcases h with ⟨rfl, rfl, rfl, rfl⟩ | ⟨x, rfl, h1, h2, h3, h4, h5⟩
  · refine ⟨none, .slice none 0 0, ?_, fun μ _ => .snil _ _, rfl, fun R _ A S _ => ⟨rfl, none, 0, rfl, Nat.le_refl _, rfl⟩⟩
    intro μ b d cs h; cases h
  · by_cases h0 : cap = 0
    · subst h0
      have hl : len = 0 := by omega
      subst hl
      have hz : zs = [] := List.eq_nil_of_length_eq_zero h3
      subst hz
      refine ⟨none, .slice (some ⟨0, 0, none⟩) 0 0, ?_, fun μ _ => .s0 x, rfl, fun R _ A S _ => ⟨rfl, some ⟨0, 0, none⟩, 0, rfl, Nat.le_refl _, .inl rfl, .inl rfl⟩⟩
      intro μ b d cs h; cases h
    · have hpos : 0 < zs.length := by omega
      -- the block
      have hc0 := h4 0 hpos
      simp only [Addr.add, if_true] at hc0
      unfold World.cell? at hc0
      split at hc0
      · rename_i c e fz hblk
        have hsp : x.spot = none := by
          cases hs : x.spot with
          | none => rfl
          | some y => rw [hs] at hc0; simp at hc0
        have hcells : ∀ j, j < zs.length → c[x.off + j]? = some (.int k (zs.getD j 0)) := by
          intro j hj
          have := h4 j hj
          unfold World.cell? at this
          by_cases hj0 : j = 0
          · subst hj0
            simp only [Addr.add, if_true, hblk, hsp, Option.isSome_none, Bool.false_eq_true, if_false] at this
            exact this
          · simp only [Addr.add, if_neg hj0, hblk, Option.isSome_none, Bool.false_eq_true, if_false] at this
            exact this
        have hsize : x.off + zs.length ≤ c.size := by
          have := hcells (zs.length - 1) (by omega)
          rcases Nat.lt_or_ge (x.off + (zs.length - 1)) c.size with h | h
          · omega
          · rw [Array.getElem?_eq_none h] at this; cases this
        have hcut : (c.toList.drop x.off).take zs.length = zs.map (.int k) := by
          refine List.ext_getElem? fun j => ?_
          rw [List.getElem?_take]
          split
          · rename_i hj
            rw [List.getElem?_drop, Array.getElem?_toList, hcells j hj, List.getElem?_map, List.getD_eq_getElem?_getD, List.getElem?_eq_getElem hj]
            rfl
          · rename_i hj
            rw [List.getElem?_eq_none (by simp; omega)]
        refine ⟨some (x.block, x.off, zs.map (.int k)), .slice (some ⟨i, 0, none⟩) len cap, fun μ b d cs h => ?_, fun μ hμ => ?_, by simp; omega, fun R hR A S H => ?_⟩
        · cases h
          refine ⟨c, e, fz, hblk, ?_, fun y hy => ?_, by simpa using hsize⟩
          · rw [List.length_map, hcut]; exact lrefl μ zs
          · obtain ⟨n, _, rfl⟩ := List.mem_map.1 hy; rfl
        · have : some x = some (⟨x.block, 0 + x.off, none⟩ : Addr) := by
            obtain ⟨b, o, s⟩ := x
            simp only at hsp
            subst hsp
            simp
          rw [this]
          exact .slice (hμ _ _ _ rfl)
        · obtain ⟨k1, k2⟩ := H.ro i _ (hR _ _ _ rfl)
          refine ⟨by simp; omega, some ⟨i, 0, none⟩, cap, rfl, h1, .inl rfl, .inr ⟨true, _, k1, k2, by simp; omega, ?_⟩⟩
          simp [List.map_take]
      · cases hc0

/-- Numbers of any kind. -/
theorem rin_int {R : Nat → Option (List Value)} {v : Value} {l : List Int} (h : ∀ A S, St R A S → Rd S 1 l.length v (l.map (.int .i64))) : RIn R v l := by
  intro A S H
  have := h A S H
  have e : l.map (Value.int .i64) = encs l := by
    clear this h
    induction l with
    | nil => rfl
    | cons x l ih => rw [encs_cons, List.map_cons, ih]; rfl
  rw [e] at this
  exact this

end Go.Ax

/- Cells in the midst of a block; one of a row of assertions; what slices.Delete does to an owned slice. -/
namespace Go.Ax
open Enc (enc)

section mid
variable {S : AS} {b : Nat} {ro : Bool} {pre c post : List Value}

theorem getMid (h : S.h b = some (.cells ro (pre ++ c ++ post))) (k : Nat) (hk : k < c.length) : getCells S b (pre.length + k) 1 = (c[k]?).map fun v => [v] := by
  rw [get1 h, List.append_assoc, List.getElem?_append_right (Nat.le_add_right _ _), Nat.add_sub_cancel_left, List.getElem?_append_left hk]

theorem getMid0 (h : S.h b = some (.cells ro (pre ++ c ++ post))) (hk : 0 < c.length) : getCells S b pre.length 1 = (c[0]?).map fun v => [v] := getMid h 0 hk

theorem setMid (h : S.h b = some (.cells false (pre ++ c ++ post))) (k : Nat) (hk : k < c.length) (v : Value) : setCells S b (pre.length + k) [v] = some (S.set b (some (.cells false (pre ++ c.set k v ++ post)))) := by
  rw [set1 h, List.append_assoc, List.getElem?_append_right (Nat.le_add_right _ _), Nat.add_sub_cancel_left, List.getElem?_append_left hk, List.getElem?_eq_getElem hk]
  simp only [Option.map_some]
  rw [List.set_append_right _ _ (Nat.le_add_right _ _), Nat.add_sub_cancel_left, List.set_append_left _ _ hk, List.append_assoc]

theorem setMid0 (h : S.h b = some (.cells false (pre ++ c ++ post))) (hk : 0 < c.length) (v : Value) : setCells S b pre.length [v] = some (S.set b (some (.cells false (pre ++ c.set 0 v ++ post)))) := setMid h 0 hk v

theorem setMidAll {vs : List Value} (h : S.h b = some (.cells false (pre ++ c ++ post))) (hn : vs.length = c.length) : setCells S b pre.length vs = some (S.set b (some (.cells false (pre ++ vs ++ post)))) := by
  simp only [setCells, h]
  rw [if_pos (by simp; omega)]
  have e1 : (pre ++ c ++ post).take pre.length = pre := by rw [List.append_assoc, List.take_left']; rfl
  have e2 : (pre ++ c ++ post).drop (pre.length + vs.length) = post := by
    rw [hn, ← List.length_append, List.drop_left']; rfl
  rw [e1, e2]

theorem getMid_set (k : Nat) (hk : k < c.length) : getCells (S.set b (some (.cells ro (pre ++ c ++ post)))) b (pre.length + k) 1 = (c[k]?).map fun v => [v] := getMid (by rw [set_h, if_pos rfl]) k hk
theorem getMid_set0 (hk : 0 < c.length) : getCells (S.set b (some (.cells ro (pre ++ c ++ post)))) b pre.length 1 = (c[0]?).map fun v => [v] := getMid_set 0 hk
theorem setMid_set (k : Nat) (hk : k < c.length) (v : Value) : setCells (S.set b (some (.cells false (pre ++ c ++ post)))) b (pre.length + k) [v] = some (S.set b (some (.cells false (pre ++ c.set k v ++ post)))) := by
  rw [setMid (by rw [set_h, if_pos rfl]) k hk, set_set]
theorem setMid_set0 (hk : 0 < c.length) (v : Value) : setCells (S.set b (some (.cells false (pre ++ c ++ post)))) b pre.length [v] = some (S.set b (some (.cells false (pre ++ c.set 0 v ++ post)))) := setMid_set 0 hk v
end mid

theorem src_blk {S : AS} {b : Nat} {cs : List Value} {esz n c : Nat} {q : Option Nat} {ro : Bool} (hb : S.h b = some (.cells ro cs)) (h : cs.length = n * esz) : srcCells S esz (.slice (some ⟨b, 0, q⟩) n c) = some cs := by
  cases n with
  | zero =>
    have : cs = [] := List.eq_nil_of_length_eq_zero (by simpa using h)
    subst this; rfl
  | succ n =>
    simp only [srcCells, getCells, hb]
    rw [if_pos (by omega), ← h]
    simp

section focus
variable {R : Nat → Option (List Value)} {F : List Asn} {S : AS} {α : Type} {f : α → Asn} {l : List α}

theorem perm_erase {α : Type} : ∀ {l : List α} {k : Nat} (h : k < l.length), l.Perm (l[k] :: l.eraseIdx k)
  | [], k, h => by simp at h
  | a :: l, 0, _ => .refl _
  | a :: l, k + 1, h => by
    simp only [List.getElem_cons_succ, List.eraseIdx_cons_succ]
    exact ((perm_erase (l := l) (by simpa using h)).cons a).trans (List.Perm.swap _ _ _)

theorem perm_set {α : Type} : ∀ {l : List α} {k : Nat} (y : α), k < l.length → (y :: l.eraseIdx k).Perm (l.set k y)
  | [], k, y, h => by simp at h
  | a :: l, 0, y, _ => .refl _
  | a :: l, k + 1, y, h => by
    simp only [List.set_cons_succ, List.eraseIdx_cons_succ]
    exact (List.Perm.swap _ _ _).trans ((perm_set (l := l) y (by simpa using h)).cons a)

theorem map_erase {α β : Type} (f : α → β) : ∀ (l : List α) (k : Nat), (l.eraseIdx k).map f = (l.map f).eraseIdx k
  | [], _ => by simp
  | a :: l, 0 => by simp
  | a :: l, k + 1 => by simp [map_erase f l k]

theorem mapT_erase {α : Type} {β : Type 1} (f : α → β) : ∀ (l : List α) (k : Nat), (l.eraseIdx k).map f = (l.map f).eraseIdx k
  | [], _ => by simp
  | a :: l, 0 => by simp
  | a :: l, k + 1 => by simp [mapT_erase f l k]

/-- One of a row is taken out. -/
theorem St.focus {k : Nat} (hk : k < l.length) (H : St R (l.map f ++ F) S) : St R (f l[k] :: ((l.eraseIdx k).map f ++ F)) S := by
  refine H.perm ?_
  have := ((perm_erase hk).map f).append_right F
  simpa using this

/-- And another one laid back. -/
theorem St.unfocus {k : Nat} (hk : k < l.length) (x : α) (H : St R (f x :: ((l.eraseIdx k).map f ++ F)) S) : St R ((l.set k x).map f ++ F) S := by
  refine H.perm ?_
  have := ((perm_set x hk).map f).append_right F
  simpa using this

theorem St.past (Xs : List Asn) {A : List Asn} (H : St R (Xs ++ (A ++ F)) S) : St R (A ++ (Xs ++ F)) S := by
  refine H.perm ?_
  rw [← List.append_assoc, ← List.append_assoc]
  exact List.perm_append_comm.append_right F
theorem St.front (H : St R (F ++ l.map f) S) : St R (l.map f ++ F) S := H.perm List.perm_append_comm
/-- Behind a row, to the front. -/
theorem St.behind {P : Asn} {A : List Asn} (H : St R (A ++ P :: F) S) : St R (P :: (A ++ F)) S := H.perm List.perm_middle
theorem St.before {P : Asn} {A : List Asn} (H : St R (P :: (A ++ F)) S) : St R (A ++ P :: F) S := H.perm List.perm_middle.symm
end focus

section del
variable {R : Nat → Option (List Value)} {F : List Asn} {S : AS} {esz n : Nat} {v : Value} {cs : List Value}

/-- Some of it go: append(s[:i], s[j:]...), and the places behind are cleared. -/
theorem Sl.delete (H : St R (Sl esz n v cs :: F) S) {i j : Nat} (hij : i < j) (hj : j ≤ n) (zero : List Value) (hz : zero.length = esz) (he : 0 < esz) (bytes : Nat) :
    ∃ a c, v = .slice a n c ∧ (∃ w, sliceV esz v (some (.int .i64 i)) (some (.int .i64 j)) (some (.int .i64 n)) = some w) ∧
    ∃ v1 v2 S1 a3 c3, sliceV esz v none (some (.int .i64 i)) none = some v1 ∧ sliceV esz v (some (.int .i64 j)) none none = some v2 ∧ appV esz bytes S v1 v2 = some (.slice a3 (n - (j - i)) c3, S1) ∧
      ∃ v4 S2, sliceV esz (.slice a3 (n - (j - i)) c3) (some (.int .i64 (n - (j - i) : Nat))) (some (.int .i64 n)) none = some v4 ∧ clearV zero S1 v4 = some S2 ∧
        St R (Sl esz (n - (j - i)) (.slice a3 (n - (j - i)) c3) (cs.take (i * esz) ++ cs.drop (j * esz)) :: F) S2 := by
  obtain ⟨hl, ⟨rfl, rfl⟩ | ⟨b, q, pre, cap, tail, k1, rfl, k3, k4, k5⟩⟩ := Sl.open' H
  · omega
  · have hie : i * esz ≤ j * esz := Nat.mul_le_mul_right _ (by omega)
    have hje : j * esz ≤ n * esz := Nat.mul_le_mul_right _ hj
    have hne : n * esz ≤ cap * esz := Nat.mul_le_mul_right _ k5
    have hnj : (n - j) * esz = n * esz - j * esz := Nat.sub_mul _ _ _
    have hji : (j - i) * esz = j * esz - i * esz := Nat.sub_mul _ _ _
    have hnn : (n - (j - i)) * esz = n * esz - (j * esz - i * esz) := by rw [Nat.sub_mul, hji]
    have hcap : cap * esz ≤ cs.length + tail.length := by simpa using k4
    have qq : ∀ (x y m : Option Value) (l h mm : Nat), bounds n cap x y m = some (l, h, mm) → sliceV esz (.slice (some ⟨b, pre.length, q⟩) n cap) x y m = some (.slice (some ⟨b, pre.length + l * esz, if m.isSome then none else q⟩) (h - l) (mm - l)) := by
      intro x y m l h mm hb
      rcases k1 with rfl | rfl
      · simp only [sliceV, hb, ite_self]
      · simp only [sliceV, hb, if_true]
    have b1 : bounds n cap (some (.int .i64 i)) (some (.int .i64 j)) (some (.int .i64 n)) = some (i, j, n) := by
      have e1 : bnd (.int .i64 (n : Nat)) cap = some n := by simp only [bnd]; rw [if_pos ⟨by omega, by omega⟩]; simp
      have e2 : bnd (.int .i64 (j : Nat)) n = some j := by simp only [bnd]; rw [if_pos ⟨by omega, by omega⟩]; simp
      have e3 : bnd (.int .i64 (i : Nat)) j = some i := by simp only [bnd]; rw [if_pos ⟨by omega, by omega⟩]; simp
      simp only [bounds, bOr, e1, e2, e3]
      rw [if_pos ⟨by omega, hj⟩]
    have b2 : bounds n cap none (some (.int .i64 i)) none = some (0, i, cap) := by
      have e2 : bnd (.int .i64 (i : Nat)) cap = some i := by simp only [bnd]; rw [if_pos ⟨by omega, by omega⟩]; simp
      simp only [bounds, bOr, e2]
      rw [if_pos ⟨by omega, by omega⟩]
    have b3 : bounds n cap (some (.int .i64 j)) none none = some (j, n, cap) := by
      have e2 : bnd (.int .i64 (j : Nat)) n = some j := by simp only [bnd]; rw [if_pos ⟨by omega, by omega⟩]; simp
      simp only [bounds, bOr, Option.isSome_none, Bool.false_eq_true, if_false, e2]
      rw [if_pos ⟨by omega, by omega⟩]
    refine ⟨_, _, rfl, ⟨_, qq _ _ _ _ _ _ b1⟩, ?_⟩
    obtain ⟨A, B, C, hcs, hA, hB, hC, hT, hD⟩ : ∃ A B C : List Value, cs = A ++ B ++ C ∧ A.length = i * esz ∧ B.length = (j - i) * esz ∧ C.length = (n - j) * esz ∧ cs.take (i * esz) = A ∧ cs.drop (j * esz) = C := by
      refine ⟨cs.take (i * esz), (cs.drop (i * esz)).take ((j - i) * esz), cs.drop (j * esz), ?_, by simp; omega, by simp; omega, by simp; omega, rfl, rfl⟩
      have : cs.drop (j * esz) = (cs.drop (i * esz)).drop ((j - i) * esz) := by rw [List.drop_drop]; congr 1; omega
      rw [this, List.append_assoc, List.take_append_drop, List.take_append_drop]
    rw [hT, hD]
    clear hT hD
    subst hcs
    have hlen : n - (j - i) = i + (n - j) := by omega
    have hs2 : srcCells S esz (.slice (some ⟨b, pre.length + j * esz, q⟩) (n - j) (cap - j)) = some C := by
      cases hn : n - j with
      | zero =>
        have : C = [] := List.eq_nil_of_length_eq_zero (by rw [hC, hn]; simp)
        rw [this]; rfl
      | succ m =>
        simp only [srcCells, getCells, k3.pget]
        have e1 : pre ++ (A ++ B ++ C) ++ tail = (pre ++ A ++ B) ++ (C ++ tail) := by simp
        have e2 : pre.length + j * esz = (pre ++ A ++ B).length := by simp; omega
        rw [e1, e2, List.drop_left', ← hn, ← hC, List.take_left']
        · rw [if_pos (by simp; omega)]
        · rfl
        · rfl
    obtain ⟨D, hD⟩ : ∃ D, D = (B ++ C ++ tail).drop C.length := ⟨_, rfl⟩
    have hDl : D.length = B.length + tail.length := by rw [hD]; simp; omega
    have happ : ∃ S1, appV esz bytes S (.slice (some ⟨b, pre.length + 0 * esz, if (none : Option Value).isSome then none else q⟩) (i - 0) (cap - 0)) (.slice (some ⟨b, pre.length + j * esz, if (none : Option Value).isSome then none else q⟩) (n - j) (cap - j)) = some (.slice (some ⟨b, pre.length, q⟩) (n - (j - i)) cap, S1) ∧
        St R (pts b (pre ++ A ++ C ++ D) :: F) S1 := by
      simp only [Nat.zero_mul, Nat.add_zero, Nat.sub_zero, Option.isSome_none, Bool.false_eq_true, if_false]
      by_cases h0 : n - j = 0
      · have hC0 : C = [] := List.eq_nil_of_length_eq_zero (by rw [hC, h0]; simp)
        refine ⟨S, ?_, ?_⟩
        · have hc : i + (n - j) ≤ cap := by omega
          simp only [appV, hs2, srcLen_sl]
          simp only [hc, if_true]
          simp only [h0, if_true]
          rw [show n - (j - i) = i from by omega]
        · rw [hD, hC0]
          rw [hC0] at k3
          simpa using k3
      · refine ⟨S.set b (some (.cells false (pre ++ A ++ C ++ D))), ?_, k3.setc _⟩
        have hc : i + (n - j) ≤ cap := by omega
        simp only [appV, hs2, srcLen_sl]
        simp only [hc, if_true]
        simp only [h0, if_false]
        rw [hlen]
        simp only [setCells, k3.pget]
        rw [if_pos (by simp; omega)]
        simp only [Option.map_some]
        have e1 : (pre ++ (A ++ B ++ C) ++ tail).take (pre.length + i * esz) = pre ++ A := by
          have : pre ++ (A ++ B ++ C) ++ tail = (pre ++ A) ++ (B ++ C ++ tail) := by simp
          rw [this, show pre.length + i * esz = (pre ++ A).length from by simp; omega, List.take_left']
          rfl
        have e2 : (pre ++ (A ++ B ++ C) ++ tail).drop (pre.length + i * esz + C.length) = D := by
          have : pre ++ (A ++ B ++ C) ++ tail = (pre ++ A) ++ (B ++ C ++ tail) := by simp
          rw [this, show pre.length + i * esz + C.length = (pre ++ A).length + C.length from by simp; omega, List.drop_length_add_append, hD]
        rw [e1, e2]
    obtain ⟨S1, h1, h2⟩ := happ
    refine ⟨_, _, S1, some ⟨b, pre.length, q⟩, cap, qq _ _ _ _ _ _ b2, qq _ _ _ _ _ _ b3, h1, ?_⟩
    -- the places behind
    have b4 : bounds (n - (j - i)) cap (some (.int .i64 (n - (j - i) : Nat))) (some (.int .i64 n)) none = some (n - (j - i), n, cap) := by
      have e2 : bnd (.int .i64 (n : Nat)) cap = some n := by simp only [bnd]; rw [if_pos ⟨by omega, by omega⟩]; simp
      have e3 : bnd (.int .i64 (n - (j - i) : Nat)) n = some (n - (j - i)) := by simp only [bnd]; rw [if_pos ⟨by omega, by omega⟩]; simp
      simp only [bounds, bOr, e2, e3]
      rw [if_pos ⟨by omega, k5⟩]
    have hsl : sliceV esz (.slice (some ⟨b, pre.length, q⟩) (n - (j - i)) cap) (some (.int .i64 (n - (j - i) : Nat))) (some (.int .i64 n)) none = some (.slice (some ⟨b, pre.length + (n - (j - i)) * esz, q⟩) (n - (n - (j - i))) (cap - (n - (j - i)))) := by
      rcases k1 with rfl | rfl
      · simp only [sliceV, b4]
      · simp only [sliceV, b4, if_true, Option.isSome_none, Bool.false_eq_true, if_false]
    have hrep : ∀ m, (repL zero m).length = m * esz := by
      intro m
      induction m with
      | zero => simp [repL]
      | succ m ih => simp only [repL, List.length_append, ih, hz, Nat.succ_mul]; omega
    have hm : n - (n - (j - i)) = j - i := by omega
    have hAC : (n - (j - i)) * esz = A.length + C.length := by rw [hlen, Nat.add_mul, hA, hC]
    refine ⟨_, S1.set b (some (.cells false (pre ++ (A ++ C) ++ (repL zero (j - i) ++ D.drop B.length)))), hsl, ?_, ?_⟩
    · rw [hm]
      obtain ⟨m, hm2⟩ : ∃ m, j - i = m + 1 := ⟨j - i - 1, by omega⟩
      have hAC2 := hAC
      rw [hm2] at hAC2
      rw [hm2] at hB ⊢
      simp only [clearV, setCells, h2.pget]
      have hr := hrep (m + 1)
      rw [if_pos (by simp only [List.length_append, hr, hDl]; omega)]
      congr 4
      have e1 : (pre ++ A ++ C ++ D).take (pre.length + (n - (j - i)) * esz) = pre ++ A ++ C := by
        rw [show pre.length + (n - (j - i)) * esz = (pre ++ A ++ C).length from by simp; omega, List.take_left']
        rfl
      have e2 : (pre ++ A ++ C ++ D).drop (pre.length + (n - (j - i)) * esz + (repL zero (m + 1)).length) = D.drop B.length := by
        rw [show pre.length + (n - (j - i)) * esz + (repL zero (m + 1)).length = (pre ++ A ++ C).length + B.length from by simp only [List.length_append, hr]; omega, List.drop_length_add_append]
      rw [hm2] at e1 e2
      rw [e1, e2]
      simp
    · refine Sl.close (h2.setc _) ?_ k1 rfl ?_ (by omega)
      · simp; omega
      · simp [hrep]; simp at hcap; omega
end del

/-- Where an owned slice lies: nowhere, or in a block of its own. -/
theorem SlT.blk {R : Nat → Option (List Value)} {A : List Asn} {S : AS} {α : Type} {esz : Nat} [Enc α esz] {v : Value} {l : List α} {b : Nat} {cs : List Value} (H : St R (SlT v l :: pts b cs :: A) S) :
    (∃ c, v = .slice none l.length c) ∨ ∃ bt o q c, v = .slice (some ⟨bt, o, q⟩) l.length c ∧ bt ≠ b ∧ bt < S.nx := by
  obtain ⟨hl, ⟨h0, rfl⟩ | ⟨bt, q, pre, cap, tail, k1, rfl, k3, k4, k5⟩⟩ := Sl.open' H
  · left; exact ⟨0, by rw [h0]⟩
  · right; exact ⟨bt, _, q, cap, rfl, St.pne k3, k3.lt⟩

/-- An element in the midst of its block. -/
theorem SlT.focus {R : Nat → Option (List Value)} {F : List Asn} {S : AS} {α : Type} {esz : Nat} [Enc α esz] {v : Value} {l : List α} (H : St R (SlT v l :: F) S) {k : Nat} (hk : k < l.length) :
    ∃ b pre post, (∀ kd, idxSl esz v (.int kd k) = some (.pointer (some ⟨b, pre.length, none⟩))) ∧ St R (pts b (pre ++ enc l[k] ++ post) :: F) S ∧
      ∀ x S' F', St R (pts b (pre ++ enc x ++ post) :: F') S' → St R (SlT v (l.set k x) :: F') S' := by
  obtain ⟨hl, ⟨h0, rfl⟩ | ⟨b, q, pre, cap, tail, k1, rfl, k3, k4, k5⟩⟩ := Sl.open' H
  · omega
  · have hsplit : encs l = encs (l.take k) ++ enc l[k] ++ encs (l.drop (k + 1)) := by
      conv => lhs; rw [← List.take_append_drop k l, List.drop_eq_getElem_cons hk]
      rw [encs_append, encs_cons, List.append_assoc]
    have hset : ∀ x, encs (l.set k x) = encs (l.take k) ++ enc x ++ encs (l.drop (k + 1)) := by
      intro x
      rw [List.set_eq_take_append_cons_drop, if_pos hk, encs_append, encs_cons, List.append_assoc]
    have hp : (pre ++ encs (l.take k)).length = pre.length + k * esz := by rw [List.length_append, encs_len, List.length_take, Nat.min_eq_left (by omega)]
    refine ⟨b, pre ++ encs (l.take k), encs (l.drop (k + 1)) ++ tail, fun kd => ?_, ?_, fun x S' F' H' => ?_⟩
    · simp only [idxSl]
      rw [if_pos ⟨by omega, by omega⟩, hp]
      simp
    · rw [hsplit] at k3
      simpa using k3
    · unfold SlT
      refine Sl.close (b := b) (pre := pre) (tail := tail) (cap := cap) (q := q) ?_ (encs_len _) k1 (by rw [List.length_set]) ?_ (by rw [List.length_set]; exact k5)
      · rw [hset]; simpa using H'
      · rw [List.length_append, encs_len, List.length_set]
        rw [List.length_append, encs_len] at k4
        exact k4

theorem idxL_map {α β : Type} (f : α → β) (p : β → Bool) : ∀ (l : List α) (k : Int), idxL p (l.map f) k = idxL (fun a => p (f a)) l k
  | [], _ => rfl
  | a :: l, k => by
    by_cases h : p (f a) = true
    · simp [idxL, h]
    · have h' : p (f a) = false := by simpa using h
      simp only [idxL, List.map_cons, h', Bool.false_eq_true, if_false]
      exact idxL_map f p l (k + 1)

/-- Where the first one is at which a step says yes, and what the steps have left; -1: nowhere. -/
def idxS {σ α : Type} (step : σ → α → σ × Bool) : σ → List α → Nat → Int × σ
  | s, [], _ => (-1, s)
  | s, a :: r, k => if (step s a).2 then ((k : Int), (step s a).1) else idxS step (step s a).1 r (k + 1)

theorem idxS_drop {σ α : Type} (step : σ → α → σ × Bool) (s : σ) {l : List α} {k : Nat} (h : k < l.length) : idxS step s (l.drop k) k = if (step s l[k]).2 then ((k : Int), (step s l[k]).1) else idxS step (step s l[k]).1 (l.drop (k + 1)) (k + 1) := by
  rw [List.drop_eq_getElem_cons h]
  rfl

theorem idxS_pure {α : Type} (p : α → Bool) : ∀ (l : List α) (k : Nat), idxS (fun (_ : Unit) a => ((), p a)) () l k = (idxL p l k, ())
  | [], k => rfl
  | a :: l, k => by
    simp only [idxS, idxL]
    split
    · rfl
    · rw [idxS_pure p l (k + 1)]; rfl

theorem idxS_pure0 {α : Type} (p : α → Bool) (l : List α) : idxS (fun (_ : Unit) a => ((), p a)) () l 0 = (idxL p l 0, ()) := idxS_pure p l 0

theorem idxL_any {α : Type} (p : α → Bool) : ∀ (l : List α) (k : Int), 0 ≤ k → (decide (0 ≤ idxL p l k) = l.any p)
  | [], k, _ => by simp [idxL]
  | a :: l, k, hk => by
    by_cases h : p a = true
    · simp [idxL, h, hk]
    · have h' : p a = false := by simpa using h
      simp only [idxL, List.any_cons, h', Bool.false_eq_true, if_false, Bool.false_or]
      exact idxL_any p l (k + 1) (by omega)

end Go.Ax

/- Rows of structs of numbers, bools and strings that came in. -/
namespace Go.Ax
open Enc (enc)

/-- A cell's kind. -/
inductive FK where
  | int (k : IntKind)
  | bool
  | str
  deriving DecidableEq

/-- A cell of that kind, whole. -/
def FitC : FK → Value → Prop
  | .int k, v => ∃ n, v = .int k n ∧ (Lit.int k n).wf = true
  | .bool, v => ∃ b, v = .bool b
  | .str, v => ∃ s : ByteArray, v = .string s ∧ s.size ≤ maxLen

inductive Fits : List FK → List Value → Prop where
  | nil : Fits [] []
  | cons {k v ks vs} : FitC k v → Fits ks vs → Fits (k :: ks) (v :: vs)

theorem Fits.len {ks vs} (h : Fits ks vs) : vs.length = ks.length := by
  induction h with
  | nil => rfl
  | cons _ _ ih => simp [ih]

theorem Fits.append {ks vs ks' vs'} (h : Fits ks vs) (h' : Fits ks' vs') : Fits (ks ++ ks') (vs ++ vs') := by
  induction h with
  | nil => exact h'
  | cons a _ ih => exact .cons a ih

theorem Fits.one {k v} (h : FitC k v) : Fits [k] [v] := .cons h .nil

theorem Fits.cons_inv {k ks vs} (h : Fits (k :: ks) vs) : ∃ v vs', vs = v :: vs' ∧ FitC k v ∧ Fits ks vs' := by
  cases h with
  | cons a b => exact ⟨_, _, rfl, a, b⟩

theorem Fits.nil_inv {vs} (h : Fits [] vs) : vs = [] := by
  cases h; rfl

theorem Fits.oneCell {ks vs} (h : Fits ks vs) : ∀ x ∈ vs, x.oneCell' = true := by
  induction h with
  | nil => intro x hx; cases hx
  | @cons k v _ _ a _ ih =>
    intro x hx
    rcases List.mem_cons.1 hx with rfl | hx
    · cases k with
      | int k => obtain ⟨n, rfl, _⟩ := a; rfl
      | bool => obtain ⟨b, rfl⟩ := a; rfl
      | str => obtain ⟨s, rfl, _⟩ := a; rfl
    · exact ih x hx

theorem Fits.lrel {ks vs} (μ : Mu) (h : Fits ks vs) : LRel μ vs vs := by
  induction h with
  | nil => exact .nil
  | @cons k v _ _ a _ ih =>
    refine .cons ?_ ih
    cases k with
    | int k => obtain ⟨n, rfl, _⟩ := a; exact .int _ _
    | bool => obtain ⟨b, rfl⟩ := a; exact .bool _
    | str => obtain ⟨s, rfl, _⟩ := a; exact .string _

/-- The fields' kinds, if they lie one behind the other from 'off' on. -/
def flatFs (P : Program) (fl : TypeId → Option (List FK)) : Nat → List Field → Option (List FK)
  | _, [] => some []
  | off, f :: fs =>
    match fl f.type with
    | none => none
    | some ks => if f.offset = off ∧ P.cellsOf f.type = ks.length then (flatFs P fl (off + ks.length) fs).map (ks ++ ·) else none

/-- What cells a flat type has. -/
def flatT (P : Program) : Nat → TypeId → Option (List FK)
  | 0, _ => none
  | n + 1, t => match P.underlying t with
    | some (.int k) => some [.int k]
    | some .bool => some [.bool]
    | some .string => some [.str]
    | some (.struct fs) => match flatFs P (flatT P n) 0 fs.toList with
      | some ks => if P.cellsOf t = ks.length then some ks else none
      | none => none
    | some (.array m e) => match flatT P n e with
      | some ks => if P.cellsOf e = ks.length ∧ P.cellsOf t = m * ks.length then some (List.replicate m ks).flatten else none
      | none => none
    | _ => none

variable {H : Type} {enc' : TypeId × Value → H} {P : Program} {w : World} {base : Nat} {spare : Nat → Bool} {held : Bool}

theorem flatFs_fits (fl : TypeId → Option (List FK)) (cs : List Value) : ∀ (fs : List Field) (off : Nat) (ks : List FK), flatFs P fl off fs = some ks →
    (∀ f ∈ fs, ∀ ks, fl f.type = some ks → P.cellsOf f.type = ks.length → Fits ks ((cs.drop f.offset).take ks.length)) → Fits ks ((cs.drop off).take ks.length) := by
  intro fs
  induction fs with
  | nil => intro off ks h _; simp only [flatFs, Option.some.injEq] at h; subst h; simpa using Fits.nil
  | cons f fs ih =>
    intro off ks h hf
    simp only [flatFs] at h
    cases hk : fl f.type with
    | none => rw [hk] at h; cases h
    | some k0 =>
      rw [hk] at h
      simp only at h
      split at h
      · rename_i hc
        obtain ⟨h1, h2⟩ := hc
        cases hr : flatFs P fl (off + k0.length) fs with
        | none => rw [hr] at h; cases h
        | some kr =>
          rw [hr] at h
          simp only [Option.map_some, Option.some.injEq] at h
          subst h
          have a := hf f (by simp) k0 hk h2
          have b := ih (off + k0.length) kr hr (fun f' hf' => hf f' (by simp [hf']))
          rw [h1] at a
          rw [List.length_append, List.take_add, List.drop_drop]
          exact a.append b
      · cases h

theorem flat_fits : ∀ (n : Nat) (t : TypeId) (ks : List FK) (fuel : Nat) (cs : List Value) (x : DataW H × List MemPlace),
    flatT P n t = some ks → DataW.trod enc' P w base spare held fuel t cs = some x → Fits ks cs := by
  intro n
  induction n with
  | zero => intro t ks fuel cs x h _; cases h
  | succ n ih =>
    intro t ks fuel cs x h hx
    unfold flatT at h
    split at h
    · rename_i k hu
      cases h
      obtain ⟨z, rfl, _, hw⟩ := DataW.trod_int hu hx
      exact .one ⟨z, rfl, hw⟩
    · rename_i hu
      cases h
      obtain ⟨b, rfl, _⟩ := DataW.trod_bool hu hx
      exact .one ⟨b, rfl⟩
    · rename_i hu
      cases h
      obtain ⟨s, rfl, _, hs⟩ := DataW.trod_string hu hx
      exact .one ⟨s, rfl, hs⟩
    · rename_i fs hu
      split at h
      · rename_i ks' hf
        split at h
        · rename_i hc
          cases h
          obtain ⟨xs, m, _, _, hl, hlen, hr⟩ := DataW.trod_struct hu hx
          have := flatFs_fits (P := P) (flatT P n) cs fs.toList 0 ks hf ?_
          · rw [List.drop_zero, List.take_of_length_le (by omega)] at this
            exact this
          · intro f hfm k0 hk hcells
            obtain ⟨i, hi⟩ := List.getElem?_of_mem hfm
            have hi' : fs[i]? = some f := by rw [← hi]; simp
            have := hr i f hi'
            rw [hcells] at this
            have hlt : i < xs.length := by
              rw [hlen]
              have := (List.getElem?_eq_some_iff.1 hi).1
              simpa using this
            rw [List.getElem?_eq_getElem hlt] at this
            exact ih _ _ _ _ _ hk this
        · cases h
      · cases h
    · rename_i m e hu
      split at h
      · rename_i ks' hf
        split at h
        · rename_i hc
          obtain ⟨hc1, hc2⟩ := hc
          cases h
          obtain ⟨xs, m', _, _, hl, hlen, hr⟩ := DataW.trod_array hu hx
          have each : ∀ i, i < m → Fits ks' ((cs.drop (i * ks'.length)).take ks'.length) := by
            intro i hi
            have := hr i hi
            rw [hc1, List.getElem?_eq_getElem (by omega)] at this
            exact ih _ _ _ _ _ hf this
          have all : ∀ j, j ≤ m → Fits (List.replicate j ks').flatten (cs.take (j * ks'.length)) := by
            intro j
            induction j with
            | zero => intro _; simpa using Fits.nil
            | succ j ihj =>
              intro hj
              rw [List.replicate_succ', List.flatten_append, Nat.succ_mul, List.take_add]
              refine (ihj (by omega)).append ?_
              simpa using each j (by omega)
          have := all m (Nat.le_refl _)
          rw [List.take_of_length_le (by omega)] at this
          exact this
        · cases h
      · cases h
    · cases h

/-- How a slice of flat things lies. -/
def FlatRow (ks : List FK) (w : World) (a : Option Addr) (len cap : Nat) (rows : List (List Value)) : Prop :=
  (a = none ∧ len = 0 ∧ cap = 0 ∧ rows = []) ∨
  ∃ x, a = some x ∧ len ≤ cap ∧ cap ≤ maxLen ∧ rows.length = cap ∧ ∀ i, i < rows.length → Fits ks (rows.getD i []) ∧ ∀ j, j < ks.length → w.cell? ((x.add (i * ks.length)).add j) = (rows.getD i [])[j]?

theorem open_flat {n : Nat} {t e : TypeId} {ks : List FK} {a : Option Addr} {len cap : Nat} {d : DataW H} {p : List MemPlace} (ht : P.underlying t = some (.slice e)) (he : flatT P n e = some ks) (hc : P.cellsOf e = ks.length)
    (h : DataW.Trod enc' P w base (fun _ => true) held t (.slice a len cap) d p) : ∃ rows, FlatRow ks w a len cap rows := by
  obtain ⟨fuel, hf⟩ := h
  have hcs : (Value.slice a len cap).cells.toList = [.slice a len cap] := by simp [Value.cells]
  rw [hcs] at hf
  rcases DataW.trod_slice ht hf with ⟨h0, _⟩ | ⟨x, l, c, elems, rest, m, _, h1, _, hb, hl, hm, hlen, hel, hsp, _⟩
  · simp only [List.cons.injEq, Value.slice.injEq, and_true] at h0
    obtain ⟨rfl, rfl, rfl⟩ := h0
    exact ⟨[], .inl ⟨rfl, rfl, rfl, rfl⟩⟩
  · simp only [List.cons.injEq, Value.slice.injEq, and_true] at h1
    obtain ⟨rfl, rfl, rfl⟩ := h1
    obtain ⟨hrl, hr⟩ := hsp rfl
    have each : ∀ i, i < cap → ∃ cs, w.cells? base (x.add (i * P.cellsOf e)) (P.cellsOf e) = some cs ∧ Fits ks cs := by
      intro i hi
      have : ∃ y, (w.cells? base (x.add (i * P.cellsOf e)) (P.cellsOf e)).bind (DataW.trod enc' P w base (fun _ => true) held m e) = some y := by
        by_cases hil : i < len
        · exact ⟨elems[i]'(by omega), by rw [hel i hil, List.getElem?_eq_getElem]⟩
        · have := hr (i - len) (by omega)
          rw [show len + (i - len) = i by omega] at this
          exact ⟨rest[i - len]'(by omega), by rw [this, List.getElem?_eq_getElem]⟩
      obtain ⟨y, hy⟩ := this
      obtain ⟨cs, h1, h2⟩ := Option.bind_eq_some_iff.1 hy
      exact ⟨cs, h1, flat_fits n e ks m cs y he h2⟩
    let g : Nat → List Value := fun i => (w.cells? base (x.add (i * P.cellsOf e)) (P.cellsOf e)).getD []
    refine ⟨(List.range cap).map g, .inr ⟨x, rfl, hl, hm, by simp, fun i hi => ?_⟩⟩
    have hi' : i < cap := by simpa using hi
    obtain ⟨cs, h1, h2⟩ := each i hi'
    have hg : ((List.range cap).map g).getD i [] = cs := by
      rw [List.getD_eq_getElem?_getD, List.getElem?_map, List.getElem?_range hi']
      simp [g, h1]
    rw [hg]
    refine ⟨h2, fun j hj => ?_⟩
    have := (World.cells?_some h1).2.2 j (by omega)
    rw [hc] at this
    exact this

theorem getD_flat (rows : List (List Value)) (k : Nat) (h : ∀ r ∈ rows, r.length = k) : ∀ i j, j < k → rows.flatten[i * k + j]? = (rows.getD i [])[j]? := by
  induction rows with
  | nil => intro i j _; simp
  | cons r rows ih =>
    intro i j hj
    have hr := h r (by simp)
    cases i with
    | zero => simp only [Nat.zero_mul, Nat.zero_add, List.flatten_cons, List.getD_cons_zero]; rw [List.getElem?_append_left (by omega)]
    | succ i =>
      have := ih (fun r' hr' => h r' (by simp [hr'])) i j hj
      rw [List.flatten_cons, List.getElem?_append_right (by rw [hr, Nat.succ_mul]; omega), hr, List.getD_cons_succ, ← this]
      congr 1
      rw [Nat.succ_mul]; omega

/-- Such a slice is a row. -/
theorem flat_row {w : World} {ks : List FK} {a : Option Addr} {len cap : Nat} {rows : List (List Value)} (hk : 0 < ks.length) (h : FlatRow ks w a len cap rows) (i : Nat) :
    ∃ (r : Option (Nat × Nat × List Value)) (v : Value), (∀ μ, RowOk w μ r) ∧ (∀ μ : Mu, (∀ b d cs, r = some (b, d, cs) → μ i = some (b, d, 0)) → VRel μ v (.slice a len cap)) ∧ len = (rows.take len).length ∧
      (∀ x ∈ rows, Fits ks x) ∧
      (∀ R : Nat → Option (List Value), (∀ b d cs, r = some (b, d, cs) → R i = some cs) → ∀ A S, St R A S → Rd S ks.length len v (rows.take len).flatten) := by
  rcases h with ⟨rfl, rfl, rfl, rfl⟩ | ⟨x, rfl, h1, h2, h3, h4⟩
  · refine ⟨none, .slice none 0 0, ?_, fun μ _ => .snil _ _, rfl, (fun x hx => by cases hx), fun R _ A S _ => ⟨by simp, none, 0, rfl, Nat.le_refl _, rfl⟩⟩
    intro μ b d cs h; cases h
  · have hfit : ∀ r ∈ rows, Fits ks r := by
      intro r hr
      obtain ⟨i, hi⟩ := List.getElem?_of_mem hr
      have hlt := (List.getElem?_eq_some_iff.1 hi).1
      have := (h4 i hlt).1
      rw [List.getD_eq_getElem?_getD, hi] at this
      exact this
    have hlenk : ∀ r ∈ rows, r.length = ks.length := fun r hr => (hfit r hr).len
    have hfl : ∀ l : List (List Value), (∀ r ∈ l, r.length = ks.length) → l.flatten.length = l.length * ks.length := by
      intro l
      induction l with
      | nil => intro _; simp
      | cons r l ih =>
        intro hl
        rw [List.flatten_cons, List.length_append, ih (fun r' hr' => hl r' (by simp [hr'])), hl r (by simp), List.length_cons, Nat.succ_mul]
        omega
    by_cases h0 : cap = 0
    · subst h0
      have hl : len = 0 := by omega
      subst hl
      have hz : rows = [] := List.eq_nil_of_length_eq_zero h3
      subst hz
      refine ⟨none, .slice (some ⟨0, 0, none⟩) 0 0, ?_, fun μ _ => .s0 x, rfl, (fun x hx => by cases hx), fun R _ A S _ => ⟨by simp, some ⟨0, 0, none⟩, 0, rfl, Nat.le_refl _, .inl rfl, .inl rfl⟩⟩
      intro μ b d cs h; cases h
    · have hpos : 0 < rows.length := by omega
      have add0 : ∀ a : Addr, a.add 0 = a := fun a => by simp [Addr.add]
      have hc0 := (h4 0 hpos).2 0 hk
      rw [Nat.zero_mul, add0, add0] at hc0
      have hrow0 : ∃ v, (rows.getD 0 [])[0]? = some v := by
        have := ((h4 0 hpos).1).len
        exact ⟨_, List.getElem?_eq_getElem (by omega)⟩
      obtain ⟨v0, hv0⟩ := hrow0
      rw [hv0] at hc0
      unfold World.cell? at hc0
      split at hc0
      · rename_i c e fz hblk
        have hsp : x.spot = none := by
          cases hs : x.spot with
          | none => rfl
          | some y => rw [hs] at hc0; simp at hc0
        have hcells : ∀ i, i < rows.length → ∀ j, j < ks.length → c[x.off + (i * ks.length + j)]? = (rows.getD i [])[j]? := by
          intro i hi j hj
          have := (h4 i hi).2 j hj
          unfold World.cell? at this
          by_cases hi0 : i * ks.length = 0
          · rw [hi0, add0] at this
            by_cases hj0 : j = 0
            · subst hj0
              rw [add0] at this
              simp only [hblk, hsp, Option.isSome_none, Bool.false_eq_true, if_false] at this
              rw [hi0]; exact this
            · simp only [Addr.add, if_neg hj0, hblk, Option.isSome_none, Bool.false_eq_true, if_false] at this
              rw [hi0, Nat.zero_add]; exact this
          · by_cases hj0 : j = 0
            · subst hj0
              rw [add0] at this
              simp only [Addr.add, if_neg hi0, hblk, Option.isSome_none, Bool.false_eq_true, if_false] at this
              exact this
            · simp only [Addr.add, if_neg hi0, if_neg hj0, hblk, Option.isSome_none, Bool.false_eq_true, if_false] at this
              rw [Nat.add_assoc] at this; exact this
        have hsize : x.off + rows.flatten.length ≤ c.size := by
          rw [hfl _ hlenk]
          have hi : rows.length - 1 < rows.length := by omega
          have := hcells (rows.length - 1) hi (ks.length - 1) (by omega)
          have hl' := ((h4 _ hi).1).len
          rw [List.getElem?_eq_getElem (l := rows.getD (rows.length - 1) []) (by omega)] at this
          have hlt := (Array.getElem?_eq_some_iff.1 this).1
          have : (rows.length - 1) * ks.length + ks.length = rows.length * ks.length := by
            rw [← Nat.succ_mul]; congr 1; omega
          omega
        have hcut : (c.toList.drop x.off).take rows.flatten.length = rows.flatten := by
          refine List.ext_getElem? fun q => ?_
          rw [List.getElem?_take]
          split
          · rename_i hq
            rw [hfl _ hlenk] at hq
            have hi : q / ks.length < rows.length := Nat.div_lt_of_lt_mul (by rw [Nat.mul_comm]; exact hq)
            have hj : q % ks.length < ks.length := Nat.mod_lt _ hk
            have hq' : q = q / ks.length * ks.length + q % ks.length := by rw [Nat.mul_comm]; exact (Nat.div_add_mod q ks.length).symm
            rw [List.getElem?_drop, Array.getElem?_toList]
            have e1 := hcells _ hi _ hj
            have e2 := getD_flat rows ks.length hlenk (q / ks.length) _ hj
            rw [← hq'] at e1 e2
            rw [e1, e2]
          · rename_i hq
            rw [List.getElem?_eq_none (by omega)]
        refine ⟨some (x.block, x.off, rows.flatten), .slice (some ⟨i, 0, none⟩) len cap, fun μ b d cs h => ?_, fun μ hμ => ?_, by simp; omega, hfit, fun R hR A S H => ?_⟩
        · cases h
          have hall : ∀ l : List (List Value), (∀ r ∈ l, Fits ks r) → Fits (List.replicate l.length ks).flatten l.flatten := by
            intro l
            induction l with
            | nil => intro _; exact .nil
            | cons r l ih =>
              intro hl
              rw [List.length_cons, List.replicate_succ, List.flatten_cons, List.flatten_cons]
              exact (hl r (by simp)).append (ih (fun r' hr' => hl r' (by simp [hr'])))
          have hF := hall rows hfit
          refine ⟨c, e, fz, hblk, ?_, hF.oneCell, by simpa using hsize⟩
          rw [hcut]; exact hF.lrel μ
        · have : some x = some (⟨x.block, 0 + x.off, none⟩ : Addr) := by
            obtain ⟨b, o, s⟩ := x
            simp only at hsp
            subst hsp
            simp
          rw [this]
          exact .slice (hμ _ _ _ rfl)
        · obtain ⟨k1, k2⟩ := H.ro i _ (hR _ _ _ rfl)
          have hlt : (rows.take len).length = len := by simp; omega
          have hft := hfl (rows.take len) (fun r hr => hlenk r (List.mem_of_mem_take hr))
          rw [hlt] at hft
          have hsp2 : rows.flatten = (rows.take len).flatten ++ (rows.drop len).flatten := by rw [← List.flatten_append, List.take_append_drop]
          refine ⟨hft, some ⟨i, 0, none⟩, cap, rfl, h1, .inl rfl, .inr ⟨true, _, k1, k2, ?_, ?_⟩⟩
          · rw [hsp2, List.length_append, hft]; omega
          · rw [List.drop_zero, hsp2, ← hft, List.take_left]
      · cases hc0

/-- Read as things. -/
theorem rin_enc {α : Type} {esz : Nat} [Enc α esz] {R : Nat → Option (List Value)} {v : Value} {l : List α} {rows : List (List Value)} {n : Nat} (hn : n = rows.length) (hl : rows = l.map enc) (h : ∀ A S, St R A S → Rd S esz n v rows.flatten) : RIn R v l := by
  intro A S H
  have := h A S H
  rw [hl] at this hn
  have e : (l.map enc).flatten = encs l := by rw [encs, List.flatMap_def]
  rw [e, hn, List.length_map] at this
  exact this

/-- Each row a thing. -/
theorem things {α : Type} {esz : Nat} [Enc α esz] {Q : α → Prop} {ks : List FK} (hk : ∀ cs, Fits ks cs → ∃ x : α, cs = enc x ∧ Q x) : ∀ rows : List (List Value), (∀ r ∈ rows, Fits ks r) → ∃ l : List α, rows = l.map enc ∧ ∀ x ∈ l, Q x := by
  intro rows
  induction rows with
  | nil => intro _; exact ⟨[], rfl, fun x hx => by cases hx⟩
  | cons r rows ih =>
    intro h
    obtain ⟨l, h1, h2⟩ := ih (fun r' hr' => h r' (by simp [hr']))
    obtain ⟨x, h3, h4⟩ := hk r (h r (by simp))
    refine ⟨x :: l, by rw [List.map_cons, ← h3, ← h1], fun y hy => ?_⟩
    rcases List.mem_cons.1 hy with rfl | hy
    · exact h4
    · exact h2 y hy

/-- A number by itself. -/
theorem fit_int (cs : List Value) (h : Fits [.int .i64] cs) : ∃ x : Int, cs = enc x ∧ (Lit.int .i64 x).wf = true := by
  obtain ⟨v, vs, rfl, ⟨n, rfl, hw⟩, h2⟩ := h.cons_inv
  have := h2.nil_inv
  subst this
  exact ⟨n, rfl, hw⟩

end Go.Ax

