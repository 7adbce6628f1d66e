/- Code, calls, regions whose order is open, in both. -/
import Derived.Test.YtboclpaokecalaaAx1
import Derived.IntWalk
import Derived.Great.BuildSlice
import Derived.LoopN
import Derived.Scope
/- copy, clear, make; maps; ranges: in both worlds. -/
namespace Go.Ax
open Instr
variable {P : Program}

theorem copyV_sound {B : Nat} {μ : Mu} {S S' : AS} {w : World} (r : Rel B μ S w) {t u e : TypeId} {esz : Nat} (hu : P.underlying t = some (.slice e)) (hz : szOf P e = some esz) (ty : TypeId) {s s' x x' v : Value} (hs : VRel μ s s') (hx : VRel μ x x')
    (h : copyV esz S s x = some (v, S')) : ∃ v' w', (Builtin.copy_ #[t, u] ty #[s', x']).run P w = .ok v' w' ∧ VRel μ v v' ∧ Rel B μ S' w' ∧ Fr S S' μ μ w w' := by
  unfold copyV at h
  split at h
  · rename_i b o q dl c
    split at h
    · cases h
    · rename_i cs hcs
      obtain ⟨hlen, hnl, hn1, hfirst⟩ := src_sound (P := P) r hx hcs
      obtain ⟨cc, hc1, hc2⟩ := hfirst (min (srcLen x) dl) (Nat.min_le_left _ _) w rfl
      have hmin : Nat.min (srcLen x) dl = min (srcLen x) dl := rfl
      split at h
      · rename_i h0
        cases h
        have hce : cc = #[] := by
          have : cc.toList = [] := List.eq_nil_of_length_eq_zero (by rw [← hc2.length, h0]; simp)
          exact Array.toList_eq_nil_iff.1 this
        subst hce
        obtain ⟨a', c', rfl⟩ : ∃ a' c', s' = .slice (some a') dl c' := by cases hs <;> exact ⟨_, _, rfl⟩
        refine ⟨.int .i64 0, w, ?_, .int _ _, r, Fr.refl _ _ _⟩
        rw [h0] at hc1
        simp [Builtin.copy_, run_underlying hu, run_szOf hz, hlen, hmin, h0, hc1, storeCells, goInt]
      · rename_i h0
        cases hset : setCells S b o (cs.take (min (srcLen x) dl * esz)) with
        | none => rw [hset] at h; cases h
        | some S1 =>
          rw [hset] at h
          simp only [Option.map_some, Option.some.injEq, Prod.mk.injEq] at h
          obtain ⟨rfl, rfl⟩ := h
          obtain ⟨bb, d, z', c', rfl, hm⟩ : ∃ bb d z' c', s' = .slice (some ⟨bb, o + d, none⟩) dl c' ∧ μ b = some (bb, d, z') := by
            cases hs with
            | slice hm => exact ⟨_, _, _, _, rfl, hm⟩
            | slack hm hc hz => exact ⟨_, _, _, _, rfl, hm⟩
            | s0 a => simp at h0
          obtain ⟨w', hst, hr, hf⟩ := setCells_sound (P := P) r hm hc2 (fun y hy => hn1 y (List.mem_of_mem_take hy)) hset
          refine ⟨.int .i64 (min (srcLen x) dl : Nat), w', ?_, .int _ _, hr, hf⟩
          simp [Builtin.copy_, run_underlying hu, run_szOf hz, hlen, hmin, hc1, hst, goInt]
  · rename_i c
    split at h
    · cases h
    · rename_i cs hcs
      cases h
      obtain ⟨hlen, hnl, hn1, hfirst⟩ := src_sound (P := P) r hx hcs
      obtain ⟨cc, hc1, hc2⟩ := hfirst 0 (Nat.zero_le _) w rfl
      cases hs
      refine ⟨.int .i64 0, w, ?_, .int _ _, r, Fr.refl _ _ _⟩
      have hmin : Nat.min (srcLen x) 0 = 0 := Nat.min_zero _
      simp [Builtin.copy_, run_underlying hu, run_szOf hz, hlen, hc1, goInt]
  · cases h

theorem zeroCells_rep {z : Value} {n : Nat} (hn : 0 < z.cells.size) : (Builtin.zeroCells z.cells n).toList = repL z.cells.toList n := by
  unfold Builtin.zeroCells
  exact zero_row rfl hn

theorem clearS_sound {B : Nat} {μ : Mu} {S S' : AS} {w : World} (r : Rel B μ S w) {t e : TypeId} {z : Value} (hu : P.underlying t = some (.slice e)) (hz : zeroOf P e = some z) (hz0 : z.cells.toList.all (fun v => v.oneCell' && scalV v) = true) (hpos : 0 < z.cells.size)
    (ty : TypeId) {x x' : Value} (hx : VRel μ x x')
    (h : clearV z.cells.toList S x = some S') : ∃ w', (Builtin.clear_ #[t] ty #[x']).run P w = .ok (.tuple #[]) w' ∧ Rel B μ S' w' ∧ Fr S S' μ μ w w' := by
  unfold clearV at h
  split at h
  · cases h
    obtain ⟨a', c', rfl⟩ : ∃ a' c', x' = .slice a' 0 c' := by cases hx <;> exact ⟨_, _, rfl⟩
    refine ⟨w, ?_, r, Fr.refl _ _ _⟩
    cases a' <;> simp [Builtin.clear_, run_underlying hu]
  · rename_i b o q n c hn0
    obtain ⟨bb, d, z', c', rfl, hm⟩ : ∃ bb d z' c', x' = .slice (some ⟨bb, o + d, none⟩) n c' ∧ μ b = some (bb, d, z') := by
      cases hx with
      | slice hm => exact ⟨_, _, _, _, rfl, hm⟩
      | slack hm hc hz => exact ⟨_, _, _, _, rfl, hm⟩
      | s0 a => simp at hn0
    have hl : LRel μ (repL z.cells.toList n) (Builtin.zeroCells z.cells n).toList := by
      rw [zeroCells_rep hpos]
      exact LRel.of_get rfl (fun i v hv => ⟨v, hv, by
        have := repL_mem _ _ _ (List.mem_of_getElem? hv)
        exact scal_rel μ (by have := List.all_eq_true.1 hz0 _ this; simp at this; exact this.2)⟩)
    obtain ⟨w', hst, hr, hf⟩ := setCells_sound (P := P) r hm hl (fun y hy => by
      have := repL_mem _ _ _ hy
      have := List.all_eq_true.1 hz0 _ this; simp at this; exact this.1) h
    refine ⟨w', ?_, hr, hf⟩
    cases n with
    | zero => exact absurd rfl hn0
    | succ n => simp [Builtin.clear_, run_underlying hu, run_zeroOf hz, hst]
  · cases h

theorem mkSl_sound {B : Nat} {μ : Mu} {S S' : AS} {w : World} (r : Rel B μ S w) (hf : μ S.nx = none) {t e : TypeId} {esz bytes : Nat} {z : Value} (hu : P.underlying t = some (.slice e)) (hs : szOf P e = some esz) (hb : bytesOf P e = some bytes) (hz : zeroOf P e = some z)
    (hsz : z.cells.size = esz) (hpos : 0 < esz) (hz0 : z.cells.toList.all (fun v => v.oneCell' && scalV v) = true) {l l' c c' v : Value} (hl : VRel μ l l') (hc : VRel μ c c')
    (h : mkSl z.cells.toList bytes S l c = some (v, S')) : ∃ v' μ' w', (makeSlice t l' c').run P w = .ok v' w' ∧ VRel μ' v v' ∧ Rel B μ' S' w' ∧ Fr S S' μ μ' w w' := by
  unfold mkSl at h
  split at h
  · rename_i n m
    split at h
    · rename_i hcond
      obtain ⟨h0, h1, h2, h3⟩ := hcond
      cases h
      cases hl; cases hc
      obtain ⟨bi, hbi, hbb⟩ := run_bytesOf (P := P) hb w
      have hw1 : IntKind.i64.wrap n = n := IntWalk.i64_in _ (by omega)
      have hw2 : IntKind.i64.wrap m = m := IntWalk.i64_in _ (by omega)
      have hlt : ¬ (bytes : Int) * m > 281474976710656 := by omega
      have hrow : ((Array.range (m.toNat * esz)).map (z.cells[· % z.cells.size]!)).toList = repL z.cells.toList m.toNat := zero_row hsz hpos
      have hnew := r.new hf (o := .cells false (repL z.cells.toList m.toNat)) rfl (ob := .cells ((Array.range (m.toNat * esz)).map (z.cells[· % z.cells.size]!)) e) _ (cells_new e (by
        rw [hrow]
        exact LRel.of_get rfl (fun i v hv => ⟨v, hv, by
          have := repL_mem _ _ _ (List.mem_of_getElem? hv)
          exact scal_rel μ (by have := List.all_eq_true.1 hz0 _ this; simp at this; exact this.2)⟩)) (fun y hy => by
        have := repL_mem _ _ _ hy
        have := List.all_eq_true.1 hz0 _ this; simp at this; exact this.1))
      refine ⟨.slice (some ⟨w.heap.size, 0, none⟩) n.toNat m.toNat, _, _, ?_, ?_, hnew.1, hnew.2⟩
      · have hr1 : (askRoom (m.toNat * bi.bytes)).run P w = .ok () w := run_askRoom P w _
        by_cases hm0 : m.toNat * esz = 0
        · simp [makeSlice, run_underlying hu, asInt, asIntOf, hbi, hw1, hw2, hbb, hlt, h0, run_szOf hs, newRow, hm0]
          rw [if_neg (show ¬((m < 0 ∨ n < 0) ∨ m < n) by omega)]
          have e0 : Array.range 0 = #[] := rfl
          simp [e0]
        · have hz' := run_zeroOf hz w
          simp [makeSlice, run_underlying hu, asInt, asIntOf, hbi, hw1, hw2, hbb, hlt, h0, run_szOf hs, newRow, hm0, hz']
          intro hbad
          exact absurd hbad (by omega)
      · exact .slice (o := 0) (d := 0) (if_pos rfl)
    · cases h
  · cases h


/-- A key's kind, and its type. -/
def KFit (P : Program) (kt : TypeId) (kk : KK) : Prop := ∃ d, P.underlying kt = some d ∧ (match kk with | .int => ∃ q, d = .int q | .str => d = .string | .agg => False)

theorem keyT_fit {kt : TypeId} {kk : KK} (h : keyT P kt = some kk) : KFit P kt kk := by
  unfold keyT at h
  split at h
  · cases h; exact ⟨_, by assumption, _, rfl⟩
  · cases h; exact ⟨_, by assumption, rfl⟩
  · cases h

theorem keyEqK_sound {μ : Mu} {d : TypeDesc} {kk : KK} (hk : match kk with | .int => ∃ q, d = .int q | .str => d = .string | .agg => False) {x x' y y' : Value} (hx : VRel μ x x') (hy : VRel μ y y') {b : Bool}
    (h : keyEqK kk x y = some b) : sameNow d x' y' = some b ∧ (b = true → sameBits 10000 y' x' = true) := by
  cases kk with
  | int =>
    obtain ⟨q, rfl⟩ := hk
    unfold keyEqK at h
    split at h
    · rename_i heq; cases heq
      split at h
      · rename_i hkk; subst hkk; cases hx; cases hy; cases h
        refine ⟨by simp [sameNow], fun hb => ?_⟩
        simp only [beq_iff_eq] at hb
        subst hb
        simp [sameBits]
      · cases h
    · rename_i heq; cases heq
    · rename_i heq; cases heq
    · cases h
  | str =>
    subst hk
    unfold keyEqK at h
    split at h
    · rename_i heq; cases heq
    · cases hx; cases hy; cases h
      refine ⟨by simp [sameNow], fun hb => ?_⟩
      have hb := (MapKept.bytes_beq _ _).mp hb
      subst hb
      exact (MapKept.bytes_beq _ _).mpr rfl
    · rename_i heq; cases heq
    · cases h
  | agg => exact hk.elim

/-- What a search among entries finds, in both worlds. -/
inductive FRel (μ : Mu) : Option (Nat × Value) → Option (Nat × Value) → Prop
  | none : FRel μ none none
  | some {i : Nat} {v v' : Value} (h : VRel μ v v') : FRel μ (some (i, v)) (some (i, v'))

theorem findE_sound {μ : Mu} {d : TypeDesc} {kk : KK} (hk : match kk with | .int => ∃ q, d = .int q | .str => d = .string | .agg => False) {k k' : Value} (hkr : VRel μ k k') {es es' : List MapEntry} (h : MRel μ es es') :
    ∀ {i : Nat} {r : Option (Nat × Value)}, findE kk k es i = some r → ∃ r', findNow d k' es' i = some r' ∧ FRel μ r r' ∧
      (∀ j v, r = some (j, v) → i ≤ j ∧ j - i < es.length ∧ ∀ e, es'[j - i]? = some e → sameBits 10000 e.key k' = true) := by
  induction h with
  | nil => intro i r hr; simp only [findE, Option.some.injEq] at hr; subst hr; exact ⟨none, rfl, .none, by simp⟩
  | @cons e e' l l' hke hve hb _ ih =>
    intro i r hr
    simp only [findE] at hr
    split at hr
    · rename_i heq
      cases hr
      obtain ⟨h1, h2⟩ := keyEqK_sound hk hkr hke heq
      refine ⟨some (i, e'.val), by simp [findNow, h1], .some hve, ?_⟩
      intro j v hj
      cases hj
      refine ⟨Nat.le_refl _, by simp, fun e0 he0 => ?_⟩
      simp at he0; subst he0; exact h2 rfl
    · rename_i heq
      obtain ⟨h1, _⟩ := keyEqK_sound hk hkr hke heq
      obtain ⟨r', g1, g2, g3⟩ := ih hr
      refine ⟨r', by simp [findNow, h1, g1], g2, ?_⟩
      intro j v hj
      obtain ⟨f1, f2, f3⟩ := g3 j v hj
      refine ⟨by omega, by simp; omega, fun e0 he0 => f3 e0 ?_⟩
      have : j - i = (j - (i + 1)) + 1 := by omega
      rw [this] at he0
      simpa using he0
    · cases hr

theorem run_checkKey {kt : TypeId} {kk : KK} (h : KFit P kt kk) (emp : Bool) (v : Value) (w : World) : (checkKey emp 10000 kt v).run P w = .ok () w := by
  obtain ⟨d, hd, hk⟩ := h
  suffices hx : ∀ n, (checkKey emp (n + 1) kt v).run P w = .ok () w from hx 9999
  intro n
  cases kk with
  | int => obtain ⟨q, rfl⟩ := hk; simp [checkKey, run_underlying hd]
  | str => subst hk; simp [checkKey, run_underlying hd]
  | agg => exact hk.elim

theorem run_findKey {μ : Mu} {kt : TypeId} {kk : KK} (h : KFit P kt kk) {k k' : Value} (hkr : VRel μ k k') {es es' : List MapEntry} (hm : MRel μ es es') {r : Option (Nat × Value)} (hr : findE kk k es 0 = some r) (w : World) :
    ∃ r', (findKey kt k' es').run P w = .ok r' w ∧ FRel μ r r' ∧ (∀ j v, r = some (j, v) → j < es.length ∧ ∀ e, es'[j]? = some e → sameBits 10000 e.key k' = true) := by
  obtain ⟨d, hd, hk⟩ := h
  obtain ⟨r', h1, h2, h3⟩ := findE_sound hk hkr hm hr
  refine ⟨r', by simp [findKey, run_underlying hd, h1], h2, fun j v hj => ?_⟩
  obtain ⟨_, f2, f3⟩ := h3 j v hj
  exact ⟨by simpa using f2, by simpa using f3⟩

theorem MRel.modify {μ : Mu} {es es' : List MapEntry} (h : MRel μ es es') (i : Nat) {f f' : MapEntry → MapEntry}
    (hf : ∀ e e', VRel μ e.key e'.key → VRel μ e.val e'.val → e.born = e'.born → VRel μ (f e).key (f' e').key ∧ VRel μ (f e).val (f' e').val ∧ (f e).born = (f' e').born) : MRel μ (es.modify i f) (es'.modify i f') := by
  induction h generalizing i with
  | nil => simp; exact .nil
  | @cons e e' l l' hke hve hb ht ih =>
    cases i with
    | zero => simp; obtain ⟨h1, h2, h3⟩ := hf e e' hke hve hb; exact .cons h1 h2 h3 ht
    | succ i => simp; exact .cons hke hve hb (ih i)

theorem MRel.erase {μ : Mu} {es es' : List MapEntry} (h : MRel μ es es') (i : Nat) : MRel μ (es.eraseIdx i) (es'.eraseIdx i) := by
  induction h generalizing i with
  | nil => simp; exact .nil
  | @cons e e' l l' hke hve hb ht ih =>
    cases i with
    | zero => simp; exact ht
    | succ i => simp; exact .cons hke hve hb (ih i)

theorem MRel.born {μ : Mu} {es es' : List MapEntry} (h : MRel μ es es') (i : Nat) : (es[i]?).map (·.born) = (es'[i]?).map (·.born) := by
  induction h generalizing i with
  | nil => simp
  | @cons e e' l l' hke hve hb ht ih =>
    cases i with
    | zero => simp [hb]
    | succ i => simpa using ih i

/-- The block of a map. -/
theorem map_block {B : Nat} {μ : Mu} {S : AS} {w : World} (r : Rel B μ S w) {i b z : Nat} {es : List MapEntry} {clock : Nat} (hm : μ i = some (b, 0, z)) (hi : S.h i = some (.map es clock)) :
    ∃ es', w.heap[b]? = some (.map es' clock) ∧ MRel μ es es'.toList := by
  obtain ⟨b', d', z', h1, ⟨_, es', h2, h3⟩, _⟩ := r.obj i _ hi
  rw [hm] at h1; cases h1
  exact ⟨es', h2, h3⟩

theorem run_getMap {w : World} {b : Nat} {es : Array MapEntry} {clock : Nat} (h : w.heap[b]? = some (.map es clock)) : (getObj b).run P w = .ok (.map es clock) w := by
  simp [getObj, Sem.run, h]

theorem run_setMap {w : World} {b : Nat} {es : Array MapEntry} {clock : Nat} (h : w.heap[b]? = some (.map es clock)) (o : Obj) : (setObj b o).run P w = .ok () { w with heap := w.heap.setIfInBounds b o } := by
  simp [setObj, Sem.run, h]

theorem map_set {B : Nat} {μ : Mu} {S : AS} {w : World} (r : Rel B μ S w) {i b z : Nat} {es : List MapEntry} {clock : Nat} (hm : μ i = some (b, 0, z)) (hi : S.h i = some (.map es clock)) {es2 : List MapEntry} {c2 : Nat} {es2' : Array MapEntry}
    (h2 : MRel μ es2 es2'.toList) : Rel B μ (S.set i (some (.map es2 c2))) { w with heap := w.heap.setIfInBounds b (.map es2' c2) } ∧ Fr S (S.set i (some (.map es2 c2))) μ μ w { w with heap := w.heap.setIfInBounds b (.map es2' c2) } := by
  have hb : b < w.heap.size := r.mu i _ hm
  refine Rel.set r hi rfl hm (fun k hk => ?_) (by simp) rfl rfl rfl ⟨rfl, es2', ?_, h2⟩ rfl
  · simp [Ne.symm hk]
  · simp [hb]

theorem lookM_sound {B : Nat} {μ : Mu} {S : AS} {w : World} (r : Rel B μ S w) {t kt e : TypeId} {kk : KK} (hu : P.underlying t = some (.map kt e)) (hk : KFit P kt kk) {z : Value} (hz : zeroOf P e = some z) (hzr : groundV z = true)
    {x x' k k' v : Value} (hx : VRel μ x x') (hkr : VRel μ k k') (ok : Bool) (h : lookM kk z S x k ok = some v) : ∃ v', (lookup t x' k' ok).run P w = .ok v' w ∧ VRel μ v v' := by
  unfold lookM at h
  have hzz : ∀ w : World, (zeroValue e).run P w = .ok z w := fun w => run_zeroOf hz w
  split at h
  · cases h
  · rename_i es hes
    obtain ⟨es', hget, hmr⟩ : ∃ es' : Array MapEntry, ((x' = .map none ∧ es' = #[]) ∨ ∃ b clock, x' = .map (some b) ∧ w.heap[b]? = some (.map es' clock)) ∧ MRel μ es es'.toList := by
      cases hx with
      | mnil => cases hes; exact ⟨#[], .inl ⟨rfl, rfl⟩, .nil⟩
      | @map i b z' hm =>
        simp only at hes
        split at hes
        · rename_i es0 clock hi
          cases hes
          obtain ⟨es', h1, h2⟩ := map_block r hm hi
          exact ⟨es', .inr ⟨b, clock, rfl, h1⟩, h2⟩
        · cases hes
      | _ => cases hes
    split at h
    · cases h
    · rename_i i u hf
      cases h
      obtain ⟨r', h1, h2, _⟩ := run_findKey (P := P) hk hkr hmr hf w
      cases h2 with
      | some h2 =>
        rename_i u'
        refine ⟨if ok then .tuple #[u', .bool true] else u', ?_, ?_⟩
        · rcases hget with ⟨rfl, rfl⟩ | ⟨b, clock, rfl, hb⟩
          · simp at h1
            simp [lookup, run_underlying hu, run_checkKey (P := P) hk, h1]
          · simp [lookup, run_underlying hu, run_checkKey (P := P) hk, h1, run_getMap (P := P) hb]
        · cases ok
          · simpa using h2
          · simpa using VRel.tuple (.cons h2 (.cons (.bool true) .nil))
    · rename_i hf
      cases h
      obtain ⟨r', h1, h2, _⟩ := run_findKey (P := P) hk hkr hmr hf w
      cases h2
      refine ⟨if ok then .tuple #[z, .bool false] else z, ?_, ?_⟩
      · rcases hget with ⟨rfl, rfl⟩ | ⟨b, clock, rfl, hb⟩
        · simp at h1
          simp [lookup, run_underlying hu, run_checkKey (P := P) hk, h1, hzz]
        · simp [lookup, run_underlying hu, run_checkKey (P := P) hk, h1, run_getMap (P := P) hb, hzz]
      · cases ok
        · simpa using ground_rel μ hzr
        · simpa using VRel.tuple (.cons (ground_rel μ hzr) (.cons (.bool false) .nil))

theorem updM_sound {B : Nat} {μ : Mu} {S S' : AS} {w : World} (r : Rel B μ S w) {t kt e : TypeId} {kk : KK} (hu : P.underlying t = some (.map kt e)) (hk : KFit P kt kk)
    {x x' k k' v v' : Value} (hx : VRel μ x x') (hkr : VRel μ k k') (hv : VRel μ v v') (h : updM kk S x k v = some S') : ∃ w', (mapUpdate t x' k' v').run P w = .ok () w' ∧ Rel B μ S' w' ∧ Fr S S' μ μ w w' := by
  unfold updM at h
  split at h
  · rename_i i
    split at h
    · rename_i es clock hi
      cases hx with
      | @map _ b z hm =>
        obtain ⟨es', hb, hmr⟩ := map_block r hm hi
        split at h
        · cases h
        · rename_i j u hf
          cases h
          obtain ⟨r', h1, h2, h3⟩ := run_findKey (P := P) hk hkr hmr hf w
          cases h2 with
          | some h2 =>
            obtain ⟨hj, hbits⟩ := h3 j u rfl
            have hjl : j < es'.toList.length := by rw [← hmr.length]; exact hj
            have hkey : ∀ w : World, (keyThatStays (((es'[j]?).map (·.key)).getD k') k').run P w = .ok k' w := by
              intro w
              have : sameBits 10000 (es'[j]'(by simpa using hjl)).key k' = true := hbits _ (by simp)
              simp at hjl
              simp [keyThatStays, hjl, this]
            have hset := map_set r hm hi (es2 := modE es j fun e => { e with key := k, val := v }) (c2 := clock) (es2' := es'.modify j fun e => { e with key := k', val := v' }) (by
              rw [Array.toList_modify]
              exact hmr.modify j (fun e e' h1 h2 h3 => ⟨hkr, hv, h3⟩))
            refine ⟨_, ?_, hset⟩
            unfold mapUpdate
            simp only [Sem.run_bind, run_underlying hu, Result.andThen_ok, run_getMap (P := P) hb, run_checkKey (P := P) hk, h1, hkey, run_setMap (P := P) hb]
        · rename_i hf
          cases h
          obtain ⟨r', h1, h2, h3⟩ := run_findKey (P := P) hk hkr hmr hf w
          cases h2
          have hset := map_set r hm hi (es2 := es ++ [{ key := k, val := v, born := clock }]) (c2 := clock + 1) (es2' := es'.push { key := k', val := v', born := clock }) (by
            rw [Array.toList_push]
            exact hmr.append (.cons hkr hv rfl .nil))
          refine ⟨_, ?_, hset⟩
          unfold mapUpdate
          simp only [Sem.run_bind, run_underlying hu, Result.andThen_ok, run_getMap (P := P) hb, run_checkKey (P := P) hk, h1, run_setMap (P := P) hb]
    · cases h
  · cases h

theorem delM_sound {B : Nat} {μ : Mu} {S S' : AS} {w : World} (r : Rel B μ S w) {t u kt e : TypeId} {kk : KK} (hu : P.underlying t = some (.map kt e)) (hk : KFit P kt kk) (ty : TypeId)
    {x x' k k' : Value} (hx : VRel μ x x') (hkr : VRel μ k k') (h : delM kk S x k = some S') : ∃ w', (Builtin.delete_ #[t, u] ty #[x', k']).run P w = .ok (.tuple #[]) w' ∧ Rel B μ S' w' ∧ Fr S S' μ μ w w' := by
  unfold delM at h
  split at h
  · cases h
    cases hx
    refine ⟨w, ?_, r, Fr.refl _ _ _⟩
    simp [Builtin.delete_, run_underlying hu, run_checkKey (P := P) hk]
  · rename_i i
    split at h
    · rename_i es clock hi
      cases hx with
      | @map _ b z hm =>
        obtain ⟨es', hb, hmr⟩ := map_block r hm hi
        split at h
        · cases h
        · rename_i j v hf
          cases h
          obtain ⟨r', h1, h2, h3⟩ := run_findKey (P := P) hk hkr hmr hf w
          cases h2 with
          | some h2 =>
            have hset := map_set r hm hi (es2 := es.eraseIdx j) (c2 := clock) (es2' := es'.eraseIdxIfInBounds j) (by
              rw [Array.toList_eraseIdxIfInBounds]
              exact hmr.erase j)
            refine ⟨_, ?_, hset⟩
            simp [Builtin.delete_, run_underlying hu, run_getMap (P := P) hb, run_checkKey (P := P) hk, h1, run_setMap (P := P) hb]
        · rename_i hf
          cases h
          obtain ⟨r', h1, h2, h3⟩ := run_findKey (P := P) hk hkr hmr hf w
          cases h2
          have hset := map_set r hm hi (es2 := es) (c2 := clock) (es2' := es') hmr
          refine ⟨_, ?_, hset⟩
          simp [Builtin.delete_, run_underlying hu, run_getMap (P := P) hb, run_checkKey (P := P) hk, h1, run_setMap (P := P) hb]
    · cases h
  · cases h

theorem entM_sound {B : Nat} {μ : Mu} {S S' : AS} {w : World} (r : Rel B μ S w) {t kt e : TypeId} {kk : KK} (hu : P.underlying t = some (.map kt e)) (hk : KFit P kt kk) {z : Value} (hz : zeroOf P e = some z) (hzr : groundV z = true)
    {x x' k k' v : Value} (hx : VRel μ x x') (hkr : VRel μ k k') (h : entM kk z S x k = some (v, S')) : ∃ v' w', (mapEntry t x' k').run P w = .ok v' w' ∧ VRel μ v v' ∧ Rel B μ S' w' ∧ Fr S S' μ μ w w' := by
  have hzz : ∀ w : World, (zeroValue e).run P w = .ok z w := fun w => run_zeroOf hz w
  unfold entM at h
  split at h
  · rename_i i
    split at h
    · rename_i es clock hi
      cases hx with
      | @map _ b z' hm =>
        obtain ⟨es', hb, hmr⟩ := map_block r hm hi
        split at h
        · cases h
        · rename_i j u hf
          simp only [Option.some.injEq, Prod.mk.injEq] at h
          obtain ⟨rfl, rfl⟩ := h
          obtain ⟨r', h1, h2, h3⟩ := run_findKey (P := P) hk hkr hmr hf w
          cases h2 with
          | some h2 =>
            rename_i u'
            obtain ⟨hj, hbits⟩ := h3 j u rfl
            have hjl : j < es'.toList.length := by rw [← hmr.length]; exact hj
            have hkey : ∀ w : World, (keyThatStays (((es'[j]?).map (·.key)).getD k') k').run P w = .ok k' w := by
              intro w
              have : sameBits 10000 (es'[j]'(by simpa using hjl)).key k' = true := hbits _ (by simp)
              simp at hjl
              simp [keyThatStays, hjl, this]
            have hset := map_set r hm hi (es2 := modE es j fun e => { e with key := k }) (c2 := clock) (es2' := es'.modify j fun e => { e with key := k' }) (by
              rw [Array.toList_modify]
              exact hmr.modify j (fun e e' h1 h2 h3 => ⟨hkr, h2, h3⟩))
            have hborn := hmr.born j
            refine ⟨.tuple #[u', goInt (((es'[j]?).map (·.born)).getD 0)], _, ?_, ?_, hset⟩
            · unfold mapEntry
              simp only [Sem.run_bind, run_underlying hu, Result.andThen_ok, run_getMap (P := P) hb, run_checkKey (P := P) hk, h1, hkey, run_setMap (P := P) hb, Sem.run_pure]
            · rw [hborn, Array.getElem?_toList]
              have e9 : ((es'[j]?).map fun x => (x.born : Int)).getD 0 = ((((es'[j]?).map (·.born)).getD 0 : Nat) : Int) := by cases es'[j]? <;> rfl
              rw [e9]
              exact .tuple (.cons h2 (.cons (.int _ _) .nil))
        · rename_i hf
          simp only [Option.some.injEq, Prod.mk.injEq] at h
          obtain ⟨rfl, rfl⟩ := h
          obtain ⟨r', h1, h2, h3⟩ := run_findKey (P := P) hk hkr hmr hf w
          cases h2
          have hset := map_set r hm hi (es2 := es ++ [{ key := k, val := z, born := clock }]) (c2 := clock + 1) (es2' := es'.push { key := k', val := z, born := clock }) (by
            rw [Array.toList_push]
            exact hmr.append (.cons hkr (ground_rel μ hzr) rfl .nil))
          refine ⟨.tuple #[z, goInt clock], _, ?_, .tuple (.cons (ground_rel μ hzr) (.cons (.int _ _) .nil)), hset⟩
          unfold mapEntry
          simp only [Sem.run_bind, run_underlying hu, Result.andThen_ok, run_getMap (P := P) hb, run_checkKey (P := P) hk, h1, hzz, run_setMap (P := P) hb, Sem.run_pure]
    · cases h
  · cases h

theorem MRel.findIdx {μ : Mu} {es es' : List MapEntry} (h : MRel μ es es') (n : Int) : es.findIdx? (fun e => (e.born : Int) == n) = es'.findIdx? (fun e => (e.born : Int) == n) := by
  induction h with
  | nil => rfl
  | @cons e e' l l' hke hve hb ht ih => simp only [List.findIdx?_cons, hb, ih]

theorem entSt_sound {B : Nat} {μ : Mu} {S S' : AS} {w : World} (r : Rel B μ S w) (t : TypeId)
    {x x' k k' v v' : Value} (hx : VRel μ x x') (hkr : VRel μ k k') (hv : VRel μ v v') (h : entSt S x k v = some S') : ∃ w', (entryStore t x' k' v').run P w = .ok () w' ∧ Rel B μ S' w' ∧ Fr S S' μ μ w w' := by
  unfold entSt at h
  split at h
  · rename_i i kq n
    split at h
    · rename_i es clock hi
      cases hx with
      | @map _ b z hm =>
        cases hkr
        obtain ⟨es', hb, hmr⟩ := map_block r hm hi
        split at h
        · rename_i j hj
          cases h
          have hset := map_set r hm hi (es2 := modE es j fun e => { e with val := v }) (c2 := clock) (es2' := es'.modify j fun e => { e with val := v' }) (by
            rw [Array.toList_modify]
            exact hmr.modify j (fun e e' h1 h2 h3 => ⟨h1, hv, h3⟩))
          refine ⟨_, ?_, hset⟩
          have hj' : es'.findIdx? (fun e => (e.born : Int) == n) = some j := by
            rw [hmr.findIdx] at hj
            have := List.findIdx?_toArray (fun e : MapEntry => (e.born : Int) == n) es'.toList
            rw [Array.toArray_toList] at this
            rw [this]
            exact hj
          simp [entryStore, run_getMap (P := P) hb, asInt, asIntOf, hj', run_setMap (P := P) hb]
        · cases h
    · cases h
  · cases h

end Go.Ax

/- Every operation (no call, no step of a range), in both worlds. -/
namespace Go.Ax
open Instr
variable {P : Program}

theorem Done.two {B : Nat} {μ : Mu} {S : AS} {w : World} (r : Rel B μ S w) {run : Sem Value} {v v' : Value} (h : run.run P w = .ok v' w) (hv : VRel μ v v') :
    Done B μ S w ((do pure (.value (← run)) : Sem Next).run P w) v S := .val r (v' := v') (by simp [h]) hv

theorem evo_sound {μ : Mu} {N : Nat} {ρ : Env} {a : Act} (he : ERel μ N ρ a) {x : Option Operand} (hg : ∀ y, x = some y → groundO y = true) {r : Option Value} (h : evo ρ x = some r) :
    (∀ v, r = some v → ∃ v', x.map a.eval = some v' ∧ VRel μ v v') ∧ (r = none → x.map a.eval = none) := by
  cases x with
  | none => simp only [evo, Option.some.injEq] at h; subst h; exact ⟨by simp, by simp⟩
  | some y =>
    simp only [evo] at h
    cases e : ev ρ y with
    | none => rw [e] at h; cases h
    | some v =>
      rw [e] at h; simp only [Option.map_some, Option.some.injEq] at h; subst h
      exact ⟨fun u hu => by cases hu; exact ⟨_, rfl, ev_sound he (hg y rfl) e⟩, by simp⟩

theorem map_some {α β : Type} {f : α → β} {x : Option α} {y : β} (h : x.map f = some y) : ∃ z, x = some z ∧ f z = y := by
  cases x with
  | none => cases h
  | some z => exact ⟨z, rfl, by simpa using h⟩

theorem aggN_und {t : TypeId} {n : Option Nat} (h : aggN P t = some n) : ∃ d, P.underlying t = some d := by
  unfold aggN at h
  cases hu : P.underlying t with
  | none => rw [hu] at h; cases h
  | some d => exact ⟨d, rfl⟩

theorem bin_done {B : Nat} {μ : Mu} {S S' : AS} {w : World} {N : Nat} {ρ : Env} {a : Act} (r : Rel B μ S w) (he : ERel μ N ρ a) {op : BinOp} {t : TypeId} {x y : Operand} {ao : AOp} {v : Value}
    (hgx : groundO x = true) (hgy : groundO y = true) (hc : cBin P op t x y = some ao) (hs : step ao ρ S = some (v, S')) :
    Done B μ S w ((do pure (.value (← (do eqGuard op t x y (a.eval x) (a.eval y); binOp op t (a.eval x) (a.eval y) : Sem Value))) : Sem Next).run P w) v S' := by
  have hb : ao = .bin op x y → Done B μ S w ((do pure (.value (← (do eqGuard op t x y (a.eval x) (a.eval y); binOp op t (a.eval x) (a.eval y) : Sem Value))) : Sem Next).run P w) v S' := by
    intro e; subst e
    simp only [step] at hs
    split at hs
    · rename_i u1 u2 h1 h2
      obtain ⟨z, hz, e⟩ := map_some hs
      cases e
      obtain ⟨k1, k2⟩ := bin_sound (P := P) (ev_sound he hgx h1) (ev_sound he hgy h2) hz t x y w
      exact Done.two r k1 k2
    · cases hs
  unfold cBin at hc
  split at hc
  · cases hc; exact hb rfl
  · cases hc; exact hb rfl
  · rename_i hu
    have key : ∀ neg, ao = .eqB neg x y → op = (if neg = true then .neq else .eql) → Done B μ S w ((do pure (.value (← (do eqGuard op t x y (a.eval x) (a.eval y); binOp op t (a.eval x) (a.eval y) : Sem Value))) : Sem Next).run P w) v S' := by
      intro neg e e2
      subst e; subst e2
      simp only [step] at hs
      split at hs
      · rename_i b1 b2 h1 h2
        cases hs
        have k1 := ev_sound he hgx h1
        have k2 := ev_sound he hgy h2
        generalize a.eval x = xa at k1 ⊢
        generalize a.eval y = ya at k2 ⊢
        cases k1; cases k2
        exact Done.two r (eqB_run hu b1 b2 neg x y w) (.bool _)
      · cases hs
    split at hc
    · cases hc; exact key false rfl rfl
    · cases hc; exact key true rfl rfl
    · cases hc
  · rename_i d hd1 hd2 hd3 hu
    have key : ∀ k neg, nkOf d = some k → ao = .eqNil k neg x y → op = (if neg = true then .neq else .eql) → Done B μ S w ((do pure (.value (← (do eqGuard op t x y (a.eval x) (a.eval y); binOp op t (a.eval x) (a.eval y) : Sem Value))) : Sem Next).run P w) v S' := by
      intro k neg hk e e2
      subst e; subst e2
      simp only [step] at hs
      split at hs
      · rename_i u1 u2 h1 h2
        obtain ⟨z, hz, e⟩ := map_some hs
        cases e
        exact Done.two r (nilEq_run hu hk (nilEq_rel (ev_sound he hgx h1) (ev_sound he hgy h2) hz) neg x y w) (.bool _)
      · cases hs
    split at hc
    · cases hc; rename_i hk; exact key _ false hk rfl rfl
    · cases hc; rename_i hk; exact key _ true hk rfl rfl
    · cases hc
  · cases hc


/-- The built-in functions. -/
theorem call_done {B : Nat} {μ : Mu} {S S' : AS} {w : World} {N : Nat} {ρ : Env} {a : Act} (r : Rel B μ S w) (hf : μ S.nx = none) (he : ERel μ N ρ a) {c : Call} {ao : AOp} {v : Value} {dst : Option Nat} {type : TypeId} {pos : String} {after : Array Edge} {guard : Option (Nat × Bool)}
    (g : ∀ x, x ∈ (Op.call c).operands → groundO x = true) (hc : cCall P c = some ao) (hs : step ao ρ S = some (v, S')) :
    Done B μ S w ((execOp a.eval { dst := dst, op := .call c, type := type, pos := pos, after := after, guard := guard }).run P w) v S' := by
  obtain ⟨callee, args, argTypes⟩ := c
  unfold cCall at hc
  cases callee with
  | value f =>
    simp only at hc
    split at hc
    · cases hc; simp only [step] at hs; cases hs
    · cases hc
  | invoke _ _ => cases hc
  | builtin b =>
    simp only at hc
    have gA : ∀ x, x ∈ args → groundO x = true := fun x hx => g x (by simp [Op.operands, Call.operands, hx])
    have one : ∀ {l : List Operand}, args.toList = l → args = l.toArray := fun h => by rw [← h, Array.toArray_toList]
    have oneT : ∀ {l : List TypeId}, argTypes.toList = l → argTypes = l.toArray := fun h => by rw [← h, Array.toArray_toList]
    split at hc
    · rename_i x t ha ht
      have e1 := one ha; have e2 := oneT ht; subst e1; subst e2
      have gx := gA x (by simp)
      split at hc
      · rename_i hu
        cases hc
        simp only [step] at hs
        split at hs
        · rename_i u hx
          obtain ⟨q, hq, e⟩ := map_some hs
          cases e
          have hxr := ev_sound he gx hx
          generalize hxe : a.eval x = xe at hxr
          unfold lenV at hq
          split at hq
          · rename_i heq; cases heq; cases hq; cases hxr
            exact .val r (v' := .int .i64 _) (by simp [execOp, resolve, invoke, builtin, Builtin.len_, run_underlying hu, hxe, goInt]) (.int _ _)
          all_goals (first | (cases hq; done) | (rename_i heq; cases heq; done) | (rename_i heq _ ; cases heq; done))
        · cases hs
      · rename_i e hu
        cases hc
        simp only [step] at hs
        split at hs
        · rename_i u hx
          obtain ⟨q, hq, e⟩ := map_some hs
          cases e
          have hxr := ev_sound he gx hx
          generalize hxe : a.eval x = xe at hxr
          unfold lenV at hq
          split at hq
          · rename_i heq; cases heq
          · cases hq
            obtain ⟨a', c', rfl⟩ : ∃ a' c', xe = .slice a' _ c' := by cases hxr <;> exact ⟨_, _, rfl⟩
            exact .val r (v' := .int .i64 _) (by simp [execOp, resolve, invoke, builtin, Builtin.len_, run_underlying hu, hxe, goInt]) (.int _ _)
          all_goals (first | (cases hq; done) | (rename_i heq; cases heq; done) | (rename_i heq _ ; cases heq; done))
        · cases hs
      · rename_i kt e hu
        cases hc
        simp only [step] at hs
        split at hs
        · rename_i u hx
          obtain ⟨q, hq, e⟩ := map_some hs
          cases e
          have hxr := ev_sound he gx hx
          generalize hxe : a.eval x = xe at hxr
          unfold lenV at hq
          split at hq
          · rename_i heq; cases heq
          · rename_i heq; cases heq
          · cases hq; cases hxr
            exact .val r (v' := .int .i64 0) (by simp [execOp, resolve, invoke, builtin, Builtin.len_, run_underlying hu, hxe, goInt]) (.int _ _)
          · split at hq
            · rename_i es clock hi
              cases hq
              cases hxr with
              | @map _ b z hm =>
                obtain ⟨es', hb, hmr⟩ := map_block r hm hi
                have hl := hmr.length
                simp only [Array.length_toList] at hl
                exact .val r (v' := .int .i64 es.length) (by simp [execOp, resolve, invoke, builtin, Builtin.len_, run_underlying hu, hxe, goInt, run_getMap (P := P) hb, hl]) (.int _ _)
            · cases hq
          · cases hq
        · cases hs
      · cases hc
    · rename_i x y ha
      have e1 := one ha; subst e1
      cases hc
      simp only [step] at hs
      split at hs
      · rename_i u1 u2 h1 h2
        obtain ⟨q, hq, e⟩ := map_some hs
        cases e
        obtain ⟨k1, k2⟩ := min_sound (P := P) (ev_sound he (gA x (by simp)) h1) (ev_sound he (gA y (by simp)) h2) hq argTypes type w
        exact .val r (v' := _) (by simp [execOp, resolve, invoke, builtin, k1]) k2
      · cases hs
    · rename_i x y ha
      have e1 := one ha; subst e1
      cases hc
      simp only [step] at hs
      split at hs
      · rename_i u1 u2 h1 h2
        obtain ⟨q, hq, e⟩ := map_some hs
        cases e
        obtain ⟨k1, k2⟩ := max_sound (P := P) (ev_sound he (gA x (by simp)) h1) (ev_sound he (gA y (by simp)) h2) hq argTypes type w
        exact .val r (v' := _) (by simp [execOp, resolve, invoke, builtin, k1]) k2
      · cases hs
    · rename_i s x t u ha ht
      have e1 := one ha; have e2 := oneT ht; subst e1; subst e2
      split at hc
      · rename_i e e' hu1 hu2
        split at hc
        · rename_i n b z hn hb hz
          split at hc
          · rename_i hcond
            cases hc
            simp only [step] at hs
            split at hs
            · rename_i u1 u2 h1 h2
              obtain ⟨v', μ', w', k1, k2, k3, k4⟩ := appV_sound (P := P) r hf (ts := #[t, u]) ⟨⟨t, u, e, e', rfl, hu1, hu2, hn, hb, hz⟩, hcond.1, hcond.2.1, hcond.2.2.1, hcond.2.2.2.1, hcond.2.2.2.2⟩ type
                (ev_sound he (gA s (by simp)) h1) (ev_sound he (gA x (by simp)) h2) hs
              exact ⟨v', μ', w', .inl (by simp [execOp, resolve, invoke, builtin, k1]), k2, k3, k4⟩
            · cases hs
          · cases hc
        · cases hc
      · cases hc
    · rename_i d s t u ha ht
      have e1 := one ha; have e2 := oneT ht; subst e1; subst e2
      split at hc
      · rename_i e hu1
        obtain ⟨n, hn, e'⟩ := map_some hc
        subst e'
        simp only [step] at hs
        split at hs
        · rename_i u1 u2 h1 h2
          obtain ⟨v', w', k1, k2, k3, k4⟩ := copyV_sound (P := P) r hu1 hn (u := u) type (ev_sound he (gA d (by simp)) h1) (ev_sound he (gA s (by simp)) h2) hs
          exact ⟨v', μ, w', .inl (by simp [execOp, resolve, invoke, builtin, k1]), k2, k3, k4⟩
        · cases hs
      · cases hc
    · rename_i x t ha ht
      have e1 := one ha; have e2 := oneT ht; subst e1; subst e2
      split at hc
      · rename_i e hu
        split at hc
        · rename_i z hz
          split at hc
          · rename_i hcond
            cases hc
            simp only [step] at hs
            split at hs
            · rename_i u1 h1
              obtain ⟨S1, hS, e'⟩ := map_some hs
              cases e'
              obtain ⟨w', k1, k2, k3⟩ := clearS_sound (P := P) r hu hz hcond.2 hcond.1 type (ev_sound he (gA x (by simp)) h1) hS
              exact ⟨.tuple #[], μ, w', .inl (by simp [execOp, resolve, invoke, builtin, k1]), .tuple .nil, k2, k3⟩
            · cases hs
          · cases hc
        · cases hc
      · cases hc
    · rename_i x k t u ha ht
      have e1 := one ha; have e2 := oneT ht; subst e1; subst e2
      split at hc
      · rename_i kt e hu
        obtain ⟨kk, hk, e'⟩ := map_some hc
        subst e'
        simp only [step] at hs
        split at hs
        · rename_i u1 u2 h1 h2
          obtain ⟨S1, hS, e'⟩ := map_some hs
          cases e'
          obtain ⟨w', k1, k2, k3⟩ := delM_sound (P := P) r (u := u) hu (keyT_fit hk) type (ev_sound he (gA x (by simp)) h1) (ev_sound he (gA k (by simp)) h2) hS
          exact ⟨.tuple #[], μ, w', .inl (by simp [execOp, resolve, invoke, builtin, k1]), .tuple .nil, k2, k3⟩
        · cases hs
      · cases hc
    · cases hc

theorem step_sound {B : Nat} {μ : Mu} {S S' : AS} {w : World} {N : Nat} {ρ : Env} {a : Act} (r : Rel B μ S w) (hf : μ S.nx = none) (he : ERel μ N ρ a) {o : Oper} {ao : AOp} (hc : cOp P o = some ao) {v : Value} (hs : step ao ρ S = some (v, S')) :
    Done B μ S w ((execOp a.eval o).run P w) v S' := by
  obtain ⟨dst, op, type, pos, after, guard⟩ := o
  unfold cOp at hc
  split at hc
  · cases hc
  rename_i hg
  simp only [Bool.not_eq_false] at hg
  have g : ∀ x, x ∈ op.operands → groundO x = true := fun x hx => List.all_eq_true.1 hg x (by simpa using hx)
  cases op <;> simp only at hc
  case move x =>
    cases hc
    simp only [step] at hs
    obtain ⟨u, hu, e⟩ := map_some hs
    cases e
    exact .val r (v' := a.eval x) (by simp [execOp]) (ev_sound he (g x (by simp [Op.operands])) hu)
  case assign x =>
    cases hc
    simp only [step] at hs
    obtain ⟨u, hu, e⟩ := map_some hs
    cases e
    exact .val r (v' := a.eval x) (by simp [execOp]) (ev_sound he (g x (by simp [Op.operands])) hu)
  case pick c x y =>
    cases hc
    simp only [step] at hs
    split at hs
    · rename_i t ht
      have hcr := ev_sound he (g c (by simp [Op.operands])) ht
      generalize hce : a.eval c = ce at hcr
      cases hcr
      split at hs
      · rename_i ht; subst ht
        obtain ⟨u, hu, e⟩ := map_some hs
        cases e
        exact .val r (v' := a.eval x) (by simp [execOp, hce, asBool]) (ev_sound he (g x (by simp [Op.operands])) hu)
      · rename_i ht
        simp only [Bool.not_eq_true] at ht; subst ht
        obtain ⟨u, hu, e⟩ := map_some hs
        cases e
        exact .val r (v' := a.eval y) (by simp [execOp, hce, asBool]) (ev_sound he (g y (by simp [Op.operands])) hu)
    · cases hs
  case alloc e =>
    split at hc
    · rename_i z hz
      split at hc
      · rename_i hz1
        cases hc
        simp only [step] at hs
        cases hs
        obtain ⟨h1, h2⟩ := ones hz1 μ
        refine new_done r hf rfl _ (cells_new e h1 h2) ?_ (fun μ' hm => .ptr (o := 0) (d := 0) hm)
        simp [execOp, Instr.alloc, run_zeroOf hz, newVar, newRow]
      · cases hc
    · cases hc
  case box e x =>
    cases hc
    simp only [step] at hs
    split at hs
    · rename_i u hu
      split at hs
      · rename_i hk
        cases hs
        obtain ⟨h1, h2⟩ := (ev_sound he (g x (by simp [Op.operands])) hu).cells hk
        refine new_done r hf rfl _ (cells_new e h1 h2) ?_ (fun μ' hm => .ptr (o := 0) (d := 0) hm)
        simp [execOp, Instr.box, newVar, newRow]
      · cases hs
    · cases hs
  case build t ps =>
    have hgp : (ps.toList.map (·.2)).all groundO = true := List.all_eq_true.2 fun x hx => g x (by simpa [Op.operands] using hx)
    split at hc
    · rename_i z fields hz hu
      split at hc
      · rename_i hcond
        obtain ⟨qs, hq, e⟩ := map_some hc
        subst e
        simp only [step] at hs
        split at hs
        · rename_i vs hvs
          obtain ⟨cs, hcs, e⟩ := map_some hs
          cases e
          obtain ⟨h1, h2⟩ := ones hcond.2 μ
          obtain ⟨places, hp1, hp2⟩ := szs_places (P := P) hcond.1
          have hpr := partsS_rel (P := P) he (fields := fields) (place := fun i => places.toArray[i]?) (by intro i; simpa using hp2 i) hgp hq hvs
          obtain ⟨c1, k1, k2, k3⟩ := fill_sound hpr h1 h2 hcs
          refine .val r (v' := .agg c1) ?_ (.agg (by simpa using k2) (by simpa using k3))
          obtain ⟨zi, hzi, hzz⟩ : ∃ i, P.info? t = some i ∧ i.zero = some z := by
            unfold zeroOf at hz
            cases hi : P.info? t with
            | none => simp [hi] at hz
            | some i => exact ⟨i, rfl, by simpa [hi] using hz⟩
          have hb := run_build (P := P) w t (ps.map fun (i, x) => (i, a.eval x)) c1 (by
            unfold Program.built
            simp only [hzi, hu, hzz, hp1]
            rw [Array.toList_map]
            exact k1)
          simp only [execOp, Sem.run_bind, hb, Result.andThen_ok, Sem.run_pure]
        · cases hs
      · cases hc
    · rename_i z n e hz hu
      split at hc
      · rename_i m hm
        split at hc
        · rename_i hz1
          cases hc
          simp only [step] at hs
          split at hs
          · rename_i vs hvs
            obtain ⟨cs, hcs, e'⟩ := map_some hs
            cases e'
            obtain ⟨h1, h2⟩ := ones hz1 μ
            have hpr := partsA_rel he hgp hvs
            obtain ⟨c1, k1, k2, k3⟩ := fill_sound hpr h1 h2 hcs
            refine .val r (v' := .agg c1) ?_ (.agg (by simpa using k2) (by simpa using k3))
            obtain ⟨zi, hzi, hzz⟩ : ∃ i, P.info? t = some i ∧ i.zero = some z := by
              unfold zeroOf at hz
              cases hi : P.info? t with
              | none => simp [hi] at hz
              | some i => exact ⟨i, rfl, by simpa [hi] using hz⟩
            obtain ⟨ie, hie, hies⟩ := run_szOf' hm
            have hb := run_build (P := P) w t (ps.map fun (i, x) => (i, a.eval x)) c1 (by
              unfold Program.built
              simp only [hzi, hu, hzz, hie, hies]
              rw [Array.toList_map]
              exact k1)
            simp only [execOp, Sem.run_bind, hb, Result.andThen_ok, Sem.run_pure]
          · cases hs
        · cases hc
      · cases hc
    · cases hc
  case buildSlice t len ps =>
    have hgp : (ps.toList.map (·.2)).all groundO = true := List.all_eq_true.2 fun x hx => g x (by simpa [Op.operands] using hx)
    split at hc
    · rename_i e hu
      split at hc
      · rename_i n z hn hz
        split at hc
        · rename_i hcond
          obtain ⟨c1', c2', c3', c4'⟩ := hcond
          cases hc
          simp only [step] at hs
          split at hs
          · rename_i vs hvs
            obtain ⟨cs, hcs, e'⟩ := map_some hs
            cases e'
            obtain ⟨ie, hie, hies⟩ := run_szOf' hn
            have hnpos : 0 < n := by
              rcases Nat.eq_zero_or_pos n with h0 | h0
              · subst h0; simp at c1'
              · exact h0
            have hrow : ((Array.range (len * n)).map (z.cells[· % z.cells.size]!)).toList = repL z.cells.toList len := zero_row c3' hnpos
            have hzl : LRel μ (repL z.cells.toList len) ((Array.range (len * n)).map (z.cells[· % z.cells.size]!)).toList := by
              rw [hrow]
              exact LRel.of_get rfl (fun i v hv => ⟨v, hv, by
                have := repL_mem _ _ _ (List.mem_of_getElem? hv)
                exact scal_rel μ (by have := List.all_eq_true.1 c4' _ this; simp at this; exact this.2)⟩)
            have hz1 : ∀ x ∈ repL z.cells.toList len, x.oneCell' = true := fun y hy => by
              have := repL_mem _ _ _ hy
              have := List.all_eq_true.1 c4' _ this; simp at this; exact this.1
            have hpr := partsA_rel he hgp hvs
            obtain ⟨c1, k1, k2, k3⟩ := fill_sound hpr hzl hz1 hcs
            have hzi : ie.zero = some z := by unfold zeroOf at hz; simpa [hie] using hz
            have hb := run_buildSlice (P := P) w t e len (ps.map fun (i, x) => (i, a.eval x)) c1 ie z hu hie hzi (by rw [hies]; omega) (by rw [hies]; omega) (by
              rw [hies, Array.toList_map]
              exact k1)
            refine new_done r hf rfl _ (cells_new e k2 k3) ?_ (fun μ' hm => .slice (o := 0) (d := 0) hm)
            simp only [execOp, Sem.run_bind, hb, Result.andThen_ok, Sem.run_pure]
          · cases hs
        · cases hc
      · cases hc
    · cases hc
  case load t x =>
    obtain ⟨n, hn, e⟩ := map_some hc
    subst e
    simp only [step] at hs
    split at hs
    · rename_i b o hx
      have hxr := ev_sound he (g x (by simp [Op.operands])) hx
      generalize hxe : a.eval x = xe at hxr
      cases hxr with
      | @ptr _ _ bb d z hm =>
        split at hs
        · rename_i cs hcs
          obtain ⟨u, hu, e⟩ := map_some hs
          cases e
          obtain ⟨c, e, fz, h1, h2, h3, h4⟩ := getCells_sound r hm hcs
          obtain ⟨v', k1, k2⟩ := run_loadVarN (P := P) hn h1 h2 h4 h3 hu
          exact .val r (v' := v') (by simp [execOp, hxe, loadAt, sureAddr, k1]) k2
        · cases hs
    · cases hs
  case store t x y =>
    obtain ⟨n, hn, e⟩ := map_some hc
    subst e
    simp only [step] at hs
    split at hs
    · rename_i b o u hx hy
      split at hs
      · rename_i hcond
        obtain ⟨S1, hS1, e⟩ := map_some hs
        cases e
        have hxr := ev_sound he (g x (by simp [Op.operands])) hx
        have hyr := ev_sound he (g y (by simp [Op.operands])) hy
        generalize hxe : a.eval x = xe at hxr
        cases hxr with
        | @ptr _ _ bb d z hm =>
          obtain ⟨k1, k2⟩ := hyr.cells hcond.1
          obtain ⟨w', hst, hr, hfr⟩ := setCells_sound (P := P) r hm k1 k2 hS1
          refine ⟨undef, μ, w', .inr ⟨?_, rfl⟩, undef_rel μ, hr, hfr⟩
          have hsz : (a.eval y).cells.size = n := by
            have := k1.length
            simp only [Array.length_toList] at this
            omega
          simp [execOp, hxe, storeAt, sureAddr, storeVar, run_szOf hn, hsz, hst]
      · cases hs
    · cases hs
  case nilCheck x =>
    cases hc
    simp only [step] at hs
    split at hs
    · rename_i ad hx
      cases hs
      have hxr := ev_sound he (g x (by simp [Op.operands])) hx
      generalize hxe : a.eval x = xe at hxr
      cases hxr with
      | ptr hm => exact .val r (by simp [execOp, hxe]) (.ptr hm)
    · cases hs
  case binOp op t x y t2 =>
    have := bin_done r he (g x (by simp [Op.operands])) (g y (by simp [Op.operands])) hc hs
    simpa [execOp] using this
  case unOp op t x =>
    cases hc
    simp only [step] at hs
    split at hs
    · rename_i u hu
      obtain ⟨z, hz, e⟩ := map_some hs
      cases e
      obtain ⟨k1, k2⟩ := un_sound (P := P) (ev_sound he (g x (by simp [Op.operands])) hu) hz w
      exact .val r (v' := _) (by simp [execOp, k1]) k2
    · cases hs
  case convert s d x =>
    split at hc
    · rename_i k0 k hu1 hu2
      cases hc
      simp only [step] at hs
      split at hs
      · rename_i kx n hx
        cases hs
        have hxr := ev_sound he (g x (by simp [Op.operands])) hx
        generalize hxe : a.eval x = xe at hxr
        cases hxr
        exact .val r (v' := .int k (k.wrap n)) (by simp [execOp, hxe, conv_sound (P := P) hu1 hu2 kx n w]) (.int _ _)
      · cases hs
    · cases hc
  case makeFunc fn first captured =>
    cases hc
    simp only [step] at hs
    split at hs
    · rename_i u1 u2 h1 h2
      cases hs
      have k1 := evs_sound he (List.all_eq_true.2 fun x hx => g x (by simp [Op.operands]; exact .inl (by simpa using hx))) h1
      have k2 := evs_sound he (List.all_eq_true.2 fun x hx => g x (by simp [Op.operands]; exact .inr (by simpa using hx))) h2
      exact .val r (v' := .func fn (first.map a.eval) (captured.map a.eval)) (by simp [execOp, Instr.makeFunc]) (.func fn (by simpa using k1) (by simpa using k2))
    · cases hs
  case makeMap t res =>
    cases res with
    | some _ => cases hc
    | none =>
      cases hc
      simp only [step] at hs
      cases hs
      have := r.new hf (o := .map [] 0) (ob := .map #[] 0) rfl 0 (by intro μ' w' hs hw; exact ⟨rfl, #[], hw, .nil⟩)
      exact ⟨.map (some w.heap.size), _, _, .inl (by simp [execOp, Instr.makeMap]), .map (if_pos rfl), this.1, this.2⟩
  case makeSlice t l c =>
    split at hc
    · rename_i e hu
      split at hc
      · rename_i n b z hn hb hz
        split at hc
        · rename_i hcond
          cases hc
          simp only [step] at hs
          split at hs
          · rename_i u1 u2 h1 h2
            obtain ⟨v', μ', w', k1, k2, k3, k4⟩ := mkSl_sound (P := P) r hf hu hn hb hz hcond.1 hcond.2.1 hcond.2.2 (ev_sound he (g l (by simp [Op.operands])) h1) (ev_sound he (g c (by simp [Op.operands])) h2) hs
            exact ⟨v', μ', w', .inl (by simp [execOp, k1]), k2, k3, k4⟩
          · cases hs
        · cases hc
      · cases hc
    · cases hc
  case slice t x lo hi mx =>
    have gx := g x (by simp [Op.operands])
    have glo : ∀ y, lo = some y → groundO y = true := fun y hy => g y (by subst hy; simp [Op.operands])
    have ghi : ∀ y, hi = some y → groundO y = true := fun y hy => g y (by subst hy; simp [Op.operands])
    have gmx : ∀ y, mx = some y → groundO y = true := fun y hy => g y (by subst hy; simp [Op.operands])
    split at hc
    · rename_i e hu
      obtain ⟨n, hn, e'⟩ := map_some hc
      subst e'
      simp only [step] at hs
      split at hs
      · rename_i u1 u2 u3 u4 h1 h2 h3 h4
        obtain ⟨z, hz, e'⟩ := map_some hs
        cases e'
        have k2 := evo_sound he glo h2
        have k3 := evo_sound he ghi h3
        have k4 := evo_sound he gmx h4
        obtain ⟨v', q1, q2⟩ := sliceV_sound (P := P) hu hn (ev_sound he gx h1) k2.1 k2.2 k3.1 k3.2 k4.1 k4.2 hz w
        exact .val r (v' := v') (by simp [execOp, q1]) q2
      · cases hs
    · rename_i k e hu
      obtain ⟨n, hn, e'⟩ := map_some hc
      subst e'
      simp only [step] at hs
      split at hs
      · rename_i u1 u2 u3 u4 h1 h2 h3 h4
        obtain ⟨z, hz, e'⟩ := map_some hs
        cases e'
        have k2 := evo_sound he glo h2
        have k3 := evo_sound he ghi h3
        have k4 := evo_sound he gmx h4
        obtain ⟨v', q1, q2⟩ := sliceA_sound (P := P) hu hn (ev_sound he gx h1) k2.1 k2.2 k3.1 k3.2 k4.1 k4.2 hz w
        exact .val r (v' := v') (by simp [execOp, q1]) q2
      · cases hs
    · rename_i hu
      cases mx with
      | some _ => cases hc
      | none =>
        cases hc
        simp only [step] at hs
        split at hs
        · rename_i u1 u2 u3 h1 h2 h3
          obtain ⟨z, hz, e'⟩ := map_some hs
          cases e'
          have k2 := evo_sound he glo h2
          have k3 := evo_sound he ghi h3
          obtain ⟨v', q1, q2⟩ := sliceStr_sound (P := P) hu (ev_sound he gx h1) k2.1 k2.2 k3.1 k3.2 hz w
          exact .val r (v' := v') (by simp [execOp, q1]) q2
        · cases hs
    · cases hc
  case fieldAddr s x f =>
    split at hc
    · rename_i fd hf
      split at hc
      · rename_i n hn
        split at hc
        · rename_i hpos
          cases hc
          simp only [step] at hs
          split at hs
          · rename_i u hu
            obtain ⟨z, hz, e⟩ := map_some hs
            cases e
            obtain ⟨v', k1, k2⟩ := addOff_sound (P := P) hf hn hpos (ev_sound he (g x (by simp [Op.operands])) hu) hz w
            exact .val r (v' := v') (by simp [execOp, k1]) k2
          · cases hs
        · cases hc
      · cases hc
    · cases hc
  case field s x f =>
    split at hc
    · rename_i fd hf
      obtain ⟨n, hn, e⟩ := map_some hc
      subst e
      simp only [step] at hs
      split at hs
      · rename_i u hu
        obtain ⟨z, hz, e⟩ := map_some hs
        cases e
        obtain ⟨v', k1, k2⟩ := fld_sound (P := P) hf hn (ev_sound he (g x (by simp [Op.operands])) hu) hz w
        exact .val r (v' := v') (by simp [execOp, k1]) k2
      · cases hs
    · cases hc
  case indexAddr t x i =>
    split at hc
    · rename_i e hu
      obtain ⟨n, hn, e'⟩ := map_some hc
      subst e'
      simp only [step] at hs
      split at hs
      · rename_i u1 u2 h1 h2
        obtain ⟨z, hz, e'⟩ := map_some hs
        cases e'
        obtain ⟨v', k1, k2⟩ := idxSl_sound (P := P) hu hn (ev_sound he (g x (by simp [Op.operands])) h1) (ev_sound he (g i (by simp [Op.operands])) h2) hz w
        exact .val r (v' := v') (by simp [execOp, k1]) k2
      · cases hs
    · rename_i len e hu
      obtain ⟨n, hn, e'⟩ := map_some hc
      subst e'
      simp only [step] at hs
      split at hs
      · rename_i u1 u2 h1 h2
        obtain ⟨z, hz, e'⟩ := map_some hs
        cases e'
        obtain ⟨v', k1, k2⟩ := idxAr_sound (P := P) hu hn (ev_sound he (g x (by simp [Op.operands])) h1) (ev_sound he (g i (by simp [Op.operands])) h2) hz w
        exact .val r (v' := v') (by simp [execOp, k1]) k2
      · cases hs
    · cases hc
  case index t x i =>
    split at hc
    · rename_i len e hu
      split at hc
      · rename_i m n hm hn
        cases hc
        simp only [step] at hs
        split at hs
        · rename_i u1 u2 h1 h2
          obtain ⟨z, hz, e'⟩ := map_some hs
          cases e'
          obtain ⟨v', k1, k2⟩ := idxV_sound (P := P) hu hm hn (ev_sound he (g x (by simp [Op.operands])) h1) (ev_sound he (g i (by simp [Op.operands])) h2) hz w
          exact .val r (v' := v') (by simp [execOp, k1]) k2
        · cases hs
      · cases hc
    · rename_i hu
      cases hc
      simp only [step] at hs
      split at hs
      · rename_i u1 u2 h1 h2
        obtain ⟨z, hz, e'⟩ := map_some hs
        cases e'
        obtain ⟨v', k1, k2⟩ := idxStr_sound (P := P) hu (ev_sound he (g x (by simp [Op.operands])) h1) (ev_sound he (g i (by simp [Op.operands])) h2) hz w
        exact .val r (v' := v') (by simp [execOp, k1]) k2
      · cases hs
    · cases hc
  case lookup t x k ok =>
    split at hc
    · rename_i kt e hu
      split at hc
      · rename_i z hz
        split at hc
        · rename_i hzg
          obtain ⟨kk, hk, e'⟩ := map_some hc
          subst e'
          simp only [step] at hs
          split at hs
          · rename_i u1 u2 h1 h2
            obtain ⟨q, hq, e'⟩ := map_some hs
            cases e'
            obtain ⟨v', k1, k2⟩ := lookM_sound (P := P) r hu (keyT_fit hk) hz hzg (ev_sound he (g x (by simp [Op.operands])) h1) (ev_sound he (g k (by simp [Op.operands])) h2) ok hq
            exact .val r (v' := v') (by simp [execOp, k1]) k2
          · cases hs
        · cases hc
      · cases hc
    · cases hc
  case mapUpdate t m k x =>
    split at hc
    · rename_i kt e hu
      obtain ⟨kk, hk, e'⟩ := map_some hc
      subst e'
      simp only [step] at hs
      split at hs
      · rename_i u1 u2 u3 h1 h2 h3
        obtain ⟨S1, hS, e'⟩ := map_some hs
        cases e'
        obtain ⟨w', k1, k2, k3⟩ := updM_sound (P := P) r hu (keyT_fit hk) (ev_sound he (g m (by simp [Op.operands])) h1) (ev_sound he (g k (by simp [Op.operands])) h2) (ev_sound he (g x (by simp [Op.operands])) h3) hS
        exact ⟨undef, μ, w', .inr ⟨by simp [execOp, k1], rfl⟩, undef_rel μ, k2, k3⟩
      · cases hs
    · cases hc
  case insert t m k x =>
    split at hc
    · rename_i kt e hu
      obtain ⟨kk, hk, e'⟩ := map_some hc
      subst e'
      simp only [step] at hs
      split at hs
      · rename_i u1 u2 u3 h1 h2 h3
        obtain ⟨S1, hS, e'⟩ := map_some hs
        cases e'
        obtain ⟨w', k1, k2, k3⟩ := updM_sound (P := P) r hu (keyT_fit hk) (ev_sound he (g m (by simp [Op.operands])) h1) (ev_sound he (g k (by simp [Op.operands])) h2) (ev_sound he (g x (by simp [Op.operands])) h3) hS
        exact ⟨undef, μ, w', .inr ⟨by simp [execOp, k1], rfl⟩, undef_rel μ, k2, k3⟩
      · cases hs
    · cases hc
  case mapEntry t m k =>
    split at hc
    · rename_i kt e hu
      split at hc
      · rename_i z hz
        split at hc
        · rename_i hzg
          obtain ⟨kk, hk, e'⟩ := map_some hc
          subst e'
          simp only [step] at hs
          split at hs
          · rename_i u1 u2 h1 h2
            obtain ⟨v', w', k1, k2, k3, k4⟩ := entM_sound (P := P) r hu (keyT_fit hk) hz hzg (ev_sound he (g m (by simp [Op.operands])) h1) (ev_sound he (g k (by simp [Op.operands])) h2) hs
            exact ⟨v', μ, w', .inl (by simp [execOp, k1]), k2, k3, k4⟩
          · cases hs
        · cases hc
      · cases hc
    · cases hc
  case entryStore t m st x =>
    cases hc
    simp only [step] at hs
    split at hs
    · rename_i u1 u2 u3 h1 h2 h3
      obtain ⟨S1, hS, e'⟩ := map_some hs
      cases e'
      obtain ⟨w', k1, k2, k3⟩ := entSt_sound (P := P) r t (ev_sound he (g m (by simp [Op.operands])) h1) (ev_sound he (g st (by simp [Op.operands])) h2) (ev_sound he (g x (by simp [Op.operands])) h3) hS
      exact ⟨undef, μ, w', .inr ⟨by simp [execOp, k1], rfl⟩, undef_rel μ, k2, k3⟩
    · cases hs
  case extract t i =>
    cases hc
    simp only [step] at hs
    split at hs
    · rename_i u hu
      obtain ⟨z, hz, e⟩ := map_some hs
      cases e
      obtain ⟨v', k1, k2⟩ := extr_sound (P := P) (ev_sound he (g t (by simp [Op.operands])) hu) hz w
      exact .val r (v' := v') (by simp [execOp, k1]) k2
    · cases hs
  case range t x =>
    have gx := g x (by simp [Op.operands])
    have key : ∀ (o : AObj) (ob : Obj), o.ro = false → v = .pointer (some ⟨S.nx, 0, none⟩) → S' = S.new o → (Instr.range t (a.eval x)).run P w = .ok (.pointer (some ⟨w.heap.size, 0, none⟩)) (w.alloc ob) →
        (∀ μ' w', Sub μ μ' → w'.heap[w.heap.size]? = some ob → ORel B μ' w' w.heap.size 0 0 o) → Done B μ S w ((execOp a.eval { dst := dst, op := .range t x, type := type, pos := pos, after := after, guard := guard }).run P w) v S' := by
      intro o ob hro e1 e2 hrun ho
      subst e1; subst e2
      exact new_done r hf hro 0 ho (by simp [execOp, hrun]) (fun μ' hm => .ptr (o := 0) (d := 0) hm)
    split at hc
    · rename_i kt e hu
      cases hc
      simp only [step] at hs
      split at hs
      · rename_i hx
        cases hs
        have hxr := ev_sound he gx hx
        generalize hxe : a.eval x = xe at hxr key
        cases hxr
        exact key _ (.mapIter none 0 #[] 0) rfl rfl rfl (by simp [Instr.range, run_underlying hu]) (fun μ' w' hsub hw => ⟨rfl, none, hw, .mnil⟩)
      · rename_i m hx
        split at hs
        · rename_i es clock hi
          cases hs
          have hxr := ev_sound he gx hx
          generalize hxe : a.eval x = xe at hxr key
          cases hxr with
          | @map _ b z hm =>
            obtain ⟨es', hb, hmr⟩ := map_block r hm hi
            exact key _ (.mapIter (some b) clock #[] clock) rfl rfl rfl (by simp [Instr.range, run_underlying hu, run_getMap (P := P) hb]) (fun μ' w' hsub hw => ⟨rfl, some b, hw, .map (hsub _ _ hm)⟩)
        · cases hs
      · cases hs
    · rename_i hu
      cases hc
      simp only [step] at hs
      split at hs
      · rename_i s hx
        cases hs
        have hxr := ev_sound he gx hx
        generalize hxe : a.eval x = xe at hxr key
        cases hxr
        exact key _ (.stringIter s 0) rfl rfl rfl (by simp [Instr.range, run_underlying hu]) (fun μ' w' hsub hw => ⟨rfl, hw⟩)
      · cases hs
    · cases hc
  case call c => exact call_done r hf he g hc hs
  case next it s =>
    cases hc
    simp only [step] at hs
    cases hs
  all_goals (cases hc)

end Go.Ax

/- Code, in both worlds: steps of ranges, calls, regions whose order is that of the text. -/
namespace Go.Ax
open Instr
variable {P : Program}

/-- What a call comes to. -/
def CallQ (B : Nat) (μ : Mu) (S : AS) (w : World) (Q : Value → AS → Prop) (e : Ending) (w' : World) : Prop :=
  ∃ v v' μ' S', e = .returned v' ∧ Q v S' ∧ VRel μ' v v' ∧ Rel B μ' S' w' ∧ Fr S S' μ μ' w w'

/-- A function that can be called. -/
def Callable (P : Program) (f : FuncId) : Prop := ∃ fn, P.funcs[f]? = some fn ∧ (fn.name == "runtime.NumGoroutine") = false ∧ fn.body.isNone = false

def FnsOk (P : Program) (B : Nat) (Γ : Fns) : Prop :=
  ∀ f args S Q, Γ f args S Q → Callable P f ∧ ∀ (μ : Mu) (w : World) (args' : Array Value), Rel B μ S w → Bnd μ S → LRel μ args args'.toList → Calls P f args' w (CallQ B μ S w Q)

theorem run_callFunc {f : FuncId} (h : Callable P f) (args : Array Value) (w : World) : (callFunc f args).run P w = .ok (.enter f args) w := by
  obtain ⟨fn, h1, h2, h3⟩ := h
  simp only [callFunc, Sem.run_bind, run_program, Result.andThen_ok, h1]
  rw [h2, h3]
  simp

/-- A step of a range has ended. -/
def NextQ (B : Nat) (μ : Mu) (S : AS) (w : World) (K : Value → AS → Prop) (run : Result Value) : Prop :=
  ∃ v v' S' w', run = .ok v' w' ∧ K v S' ∧ VRel μ v v' ∧ Rel B μ S' w' ∧ Fr S S' μ μ w w'

theorem iter_block {B : Nat} {μ : Mu} {S : AS} {w : World} (r : Rel B μ S w) {i b d z : Nat} {o : AObj} (hm : μ i = some (b, d, z)) (hi : S.h i = some o) : ORel B μ w b d z o := by
  obtain ⟨b', d', z', h1, h2, _⟩ := r.obj i o hi
  rw [hm] at h1; cases h1
  exact h2

theorem MRel.map_born {μ : Mu} {es es' : List MapEntry} (h : MRel μ es es') : es.map (·.born) = es'.map (·.born) := by
  induction h with
  | nil => rfl
  | cons _ _ hb _ ih => simp [hb, ih]

theorem MRel.mem {μ : Mu} {es es' : List MapEntry} (h : MRel μ es es') {e' : MapEntry} (he : e' ∈ es') : ∃ e ∈ es, VRel μ e.key e'.key ∧ VRel μ e.val e'.val ∧ e.born = e'.born := by
  induction h with
  | nil => simp at he
  | @cons x x' l l' hk hv hb _ ih =>
    rcases List.mem_cons.1 he with rfl | he
    · exact ⟨x, by simp, hk, hv, hb⟩
    · obtain ⟨e, h1, h2⟩ := ih he
      exact ⟨e, by simp [h1], h2⟩

theorem MRel.filter {μ : Mu} {es es' : List MapEntry} (h : MRel μ es es') (p : Nat → Bool) : MRel μ (es.filter fun e => p e.born) (es'.filter fun e => p e.born) := by
  induction h with
  | nil => exact .nil
  | @cons x x' l l' hk hv hb _ ih =>
    simp only [List.filter_cons, hb]
    split
    · exact .cons hk hv hb ih
    · exact ih

theorem obj_set {B : Nat} {μ : Mu} {S : AS} {w : World} (r : Rel B μ S w) {i b d z : Nat} {o o' : AObj} {ob : Obj} (hm : μ i = some (b, d, z)) (hi : S.h i = some o) (hro : o.ro = false) (hro' : o'.ro = false)
    (ho : ∀ w', w'.heap[b]? = some ob → ORel B μ w' b d z o') : Rel B μ (S.set i (some o')) { w with heap := w.heap.setIfInBounds b ob } ∧ Fr S (S.set i (some o')) μ μ w { w with heap := w.heap.setIfInBounds b ob } := by
  have hb : b < w.heap.size := r.mu i _ hm
  refine Rel.set r hi hro hm (fun k hk => ?_) (by simp) rfl rfl rfl (ho _ (by simp [hb])) hro'
  simp [Ne.symm hk]

theorem next_sound {B : Nat} {μ : Mu} {S : AS} {w : World} (r : Rel B μ S w) {it it' : Value} (hit : VRel μ it it') {isS : Bool} {K : Value → AS → Prop} (h : wpNext it isS S K) (ty : TypeId) :
    NextQ B μ S w K ((next it' isS ty).run P w) := by
  unfold wpNext at h
  split at h
  · rename_i ri
    cases hit with
    | @ptr _ _ b d z hm =>
      split at h
      · rename_i s pos hi
        obtain ⟨hd, hb⟩ := iter_block r hm hi
        subst hd
        have hget : (getObj b).run P w = .ok (.stringIter s pos) w := by simp [getObj, Sem.run, hb]
        split at h
        · rename_i hlt
          have hset : ∀ o, (setObj b o).run P w = .ok () { w with heap := w.heap.setIfInBounds b o } := by intro o; simp [setObj, Sem.run, hb]
          obtain ⟨k1, k2⟩ := obj_set r hm hi rfl (o' := .strIter s (pos + (Utf8.decode s pos).2)) (ob := .stringIter s (pos + (Utf8.decode s pos).2)) rfl (fun w' hw => ⟨rfl, hw⟩)
          refine ⟨_, .tuple #[.bool true, goInt pos, .int .i32 (Utf8.decode s pos).1], _, _, ?_, h, .tuple (.cons (.bool _) (.cons (.int _ _) (.cons (.int _ _) .nil))), k1, k2⟩
          simp [next, hget, hlt, hset]
        · rename_i hlt
          refine ⟨_, .tuple #[.bool false], S, w, ?_, h, .tuple (.cons (.bool _) .nil), r, Fr.refl _ _ _⟩
          simp [next, hget, hlt]
      · rename_i since seen last hi
        obtain ⟨hd, m', hb, hmm⟩ := iter_block r hm hi
        subst hd
        cases hmm
        have hget : (getObj b).run P w = .ok (.mapIter none since seen.toArray last) w := by simp [getObj, Sem.run, hb]
        refine ⟨_, .tuple #[.bool false], S, w, ?_, h, .tuple (.cons (.bool _) .nil), r, Fr.refl _ _ _⟩
        simp [next, hget]
      · rename_i m since seen last hi
        obtain ⟨hd, m', hb, hmm⟩ := iter_block r hm hi
        subst hd
        split at h
        · rename_i es clock hmo
          cases hmm with
          | @map _ bm z2 hm2 =>
            obtain ⟨es', hbm, hmr⟩ := map_block r hm2 hmo
            obtain ⟨h1, h2, h3⟩ := h
            have hget : (getObj b).run P w = .ok (.mapIter (some bm) since seen.toArray last) w := by simp [getObj, Sem.run, hb]
            have hgetm := run_getMap (P := P) hbm
            have hset : ∀ (w1 : World) o, w1.heap = w.heap → (setObj b o).run P w1 = .ok () { w1 with heap := w1.heap.setIfInBounds b o } := by intro w1 o hw1; simp [setObj, Sem.run, hw1, hb]
            -- what the model asks
            have hbad : (!seen.toArray.isEmpty && !es'.isEmpty && es'.all (·.born ≥ last)) = false := by
              have e1 : es'.isEmpty = es.isEmpty := by
                rw [← Array.isEmpty_toList]
                generalize es'.toList = l at hmr
                cases hmr <;> rfl
              have e2 : es'.all (·.born ≥ last) = es.all (·.born ≥ last) := by
                have hb2 := hmr.map_born
                rw [← Array.all_toList]
                have : ∀ l : List MapEntry, l.all (·.born ≥ last) = (l.map (·.born)).all (fun n => decide (n ≥ last)) := by intro l; simp [List.all_map]; rfl
                rw [this, this, hb2]
              rw [e1, e2]
              simpa using h1
            -- the candidates
            obtain ⟨old, hold⟩ : ∃ old : Array MapEntry, old = (es'.filter fun e => !seen.toArray.contains e.born).filter (·.born < since) := ⟨_, rfl⟩
            obtain ⟨new, hnew⟩ : ∃ new : Array MapEntry, new = (es'.filter fun e => !seen.toArray.contains e.born).filter (·.born ≥ since) := ⟨_, rfl⟩
            obtain ⟨cands, hcands⟩ : ∃ cands : Array (Option MapEntry), cands = (if old.isEmpty then #[none] else #[]) ++ (old ++ new).map some := ⟨_, rfl⟩
            have hrun : (next (.pointer (some ⟨b, 0 + 0, none⟩)) false ty).run P w = (do
                match cands[← choose (.mapNext cands.size)]? with
                | some (some e) =>
                  setObj b (.mapIter (some bm) since (seen.toArray.push e.born) clock)
                  pure (.tuple #[.bool true, e.key, e.val])
                | some none => pure (.tuple #[.bool false])
                | none => stuck "Next: no such candidate" : Sem Value).run P w := by
              unfold next
              simp only [Nat.add_zero, Sem.run_bind, hget, Result.andThen_ok, hgetm, hbad]
              rw [if_neg (by simp)]
              rw [hcands, hnew, hold, Sem.run_bind]
              rfl
            rw [hrun]
            have hoe : old = #[] → ((es.filter fun e => !seen.contains e.born).filter (·.born < since)) = [] := by
              intro h0
              have hl := ((hmr.filter (fun n => !seen.contains n)).filter (fun n => decide (n < since))).length
              have : (((es'.toList.filter fun e => !seen.contains e.born).filter fun e => decide (e.born < since))) = old.toList := by
                rw [hold]; simp
              rw [this, h0] at hl
              exact List.eq_nil_of_length_eq_zero hl
            have hmem : ∀ e, some e ∈ cands → e ∈ es'.toList ∧ seen.contains e.born = false := by
              intro e he
              rw [hcands] at he
              simp only [Array.mem_append, Array.mem_map, Option.some.injEq, exists_eq_right] at he
              have : e ∈ old ∨ e ∈ new := by
                rcases he with he | he
                · split at he <;> simp at he
                · exact he
              rcases this with h5 | h5
              · rw [hold] at h5; simp at h5; simpa using ⟨h5.1, h5.2.2⟩
              · rw [hnew] at h5; simp at h5; simpa using ⟨h5.1, h5.2.2⟩
            have hnone : none ∈ cands → old = #[] := by
              intro he
              rw [hcands] at he
              simp only [Array.mem_append, Array.mem_map] at he
              rcases he with he | he
              · split at he
                · rename_i h5; simpa using h5
                · simp at he
              · obtain ⟨_, _, h6⟩ := he; cases h6
            have hpos : 0 < cands.size := by
              rw [hcands]
              by_cases h5 : old = #[]
              · simp [h5]; omega
              · have : 0 < old.size := Array.size_pos_iff.2 h5
                simp; omega
            have fin : ∀ (j : Nat) (w1 : World), j < cands.size → w1.heap = w.heap → w1.os = w.os → w1.tape = w.tape → w1.output = w.output →
                NextQ B μ S w K ((match cands[j]? with
                | some (some e) => do
                  setObj b (.mapIter (some bm) since (seen.toArray.push e.born) clock)
                  pure (.tuple #[.bool true, e.key, e.val])
                | some none => pure (.tuple #[.bool false])
                | none => stuck "Next: no such candidate" : Sem Value).run P w1) := by
              intro j w1 hj hw1 ho1 ht1 hu1
              have r1 := r.world hw1
              have f1 : Fr S S μ μ w w1 := Fr.world hw1 ho1 ht1 hu1
              have hjc : cands[j]? = some cands[j] := by simp [hj]
              rw [hjc]
              have hmm : cands[j] ∈ cands := Array.getElem_mem hj
              cases hcj : cands[j] with
              | none =>
                rw [hcj] at hmm
                exact ⟨_, _, S, w1, rfl, h2 (hoe (hnone hmm)), .tuple (.cons (.bool _) .nil), r1, f1⟩
              | some e =>
                rw [hcj] at hmm
                obtain ⟨h6, h7⟩ := hmem e hmm
                obtain ⟨e0, h8, h9, h10, h11⟩ := hmr.mem h6
                obtain ⟨k1, k2⟩ := obj_set r1 hm hi rfl (o' := .mapIter (some m) since (seen ++ [e0.born]) clock) (ob := .mapIter (some bm) since (seen.toArray.push e.born) clock) rfl (fun w' hw => ⟨rfl, some bm, by rw [hw, h11]; simp, .map hm2⟩)
                refine ⟨_, .tuple #[.bool true, e.key, e.val], _, _, ?_, h3 e0 h8 (by rw [h11]; exact h7), .tuple (.cons (.bool _) (.cons h9 (.cons h10 .nil))), k1, f1.trans k2⟩
                simp [hset w1 _ hw1]
            simp only [Sem.run_bind, run_choose]
            by_cases hforced : (Question.mapNext cands.size).forced = true
            · rw [if_pos hforced]
              exact fin 0 w hpos rfl rfl rfl rfl
            · rw [if_neg hforced]
              exact fin _ w.drew (Nat.mod_lt _ hpos) rfl rfl rfl rfl
        · exact h.elim
      · exact h.elim
  · exact h.elim


theorem cCall_call {c : Call} {f : Operand} {args : List Operand} (hc : cCall P c = some (.call f args)) : c.callee = .value f ∧ c.args.toList = args := by
  unfold cCall at hc
  revert hc
  cases hcl : c.callee with
  | value f' =>
    simp only
    intro hc
    split at hc
    · cases hc; exact ⟨rfl, rfl⟩
    · cases hc
  | invoke _ _ => intro hc; cases hc
  | builtin b =>
    simp only
    intro hc
    exfalso
    repeat' (split at hc)
    all_goals first
      | (cases hc; done)
      | (obtain ⟨_, _, e⟩ := map_some hc; cases e; done)

theorem cCall_next {c : Call} {it : Operand} {b : Bool} (hc : cCall P c = some (.next it b)) : False := by
  unfold cCall at hc
  repeat' (split at hc)
  all_goals first
    | (cases hc; done)
    | (obtain ⟨_, _, e⟩ := map_some hc; cases e; done)

theorem cBin_call {op : BinOp} {t : TypeId} {x y f : Operand} {args : List Operand} (hc : cBin P op t x y = some (.call f args)) : False := by
  unfold cBin at hc
  repeat' (split at hc)
  all_goals (cases hc; done)

theorem cBin_next {op : BinOp} {t : TypeId} {x y it : Operand} {b : Bool} (hc : cBin P op t x y = some (.next it b)) : False := by
  unfold cBin at hc
  repeat' (split at hc)
  all_goals (cases hc; done)

theorem cOp_call {o : Oper} {f : Operand} {args : List Operand} (hc : cOp P o = some (.call f args)) : ∃ c : Call, o.op = .call c ∧ c.callee = .value f ∧ c.args.toList = args := by
  obtain ⟨dst, op, type, pos, after, guard⟩ := o
  unfold cOp at hc
  split at hc
  · cases hc
  · cases op <;> (try simp only at hc) <;> first
      | (cases hc; done)
      | (exact ⟨_, rfl, cCall_call hc⟩)
      | (exact (cBin_call hc).elim)
      | (exfalso; repeat' (split at hc)
         all_goals first
           | (cases hc; done)
           | (rename_i heq; cases heq; done)
           | (obtain ⟨_, _, e⟩ := map_some hc; cases e; done))

theorem cOp_next {o : Oper} {it : Operand} {b : Bool} (hc : cOp P o = some (.next it b)) : o.op = .next it b := by
  obtain ⟨dst, op, type, pos, after, guard⟩ := o
  unfold cOp at hc
  split at hc
  · cases hc
  · cases op <;> (try simp only at hc) <;> first
      | (cases hc; rfl; done)
      | (cases hc; done)
      | (exact (cCall_next hc).elim)
      | (exact (cBin_next hc).elim)
      | (exfalso; repeat' (split at hc)
         all_goals first
           | (cases hc; done)
           | (rename_i heq; cases heq; done)
           | (obtain ⟨_, _, e⟩ := map_some hc; cases e; done))

/-- An operation, whatever it is: what it comes to, for whoever goes on. -/
theorem wpOp_sound {B : Nat} {Γ : Fns} (hΓ : FnsOk P B Γ) {μ : Mu} {S : AS} {w : World} {N : Nat} {ρ : Env} {a : Act} (r : Rel B μ S w) (hb : Bnd μ S) (he : ERel μ N ρ a) {o : Oper} {ao : AOp} (hc : cOp P o = some ao)
    {K : Value → AS → Prop} (h : wpOp Γ ao ρ S K) {next : Act → World → Prop} {Q : Exit → Act → World → Prop}
    (hn : ∀ v v' μ' S' w', K v S' → VRel μ' v v' → Rel B μ' S' w' → Fr S S' μ μ' w w' → next (a.put o.dst v') w') : o.wp P a w next Q := by
  have hplain : (match step ao ρ S with | some (v, S') => K v S' | none => False) → o.wp P a w next Q := by
    intro h
    split at h
    · rename_i v S' hs
      obtain ⟨v', μ', w', hrun, hv, hr, hf⟩ := step_sound r hb.fresh he hc hs
      unfold Oper.wp
      rcases hrun with hrun | ⟨hrun, rfl⟩
      · rw [hrun]; exact hn v v' μ' S' w' h hv hr hf
      · rw [hrun]; exact hn v undef μ' S' w' h hv hr hf
    · exact h.elim
  have hg : o.op.operands.toList.all groundO = true := by
    unfold cOp at hc
    split at hc
    · cases hc
    · rename_i hg; simpa using hg
  have g : ∀ x, x ∈ o.op.operands → groundO x = true := fun x hx => List.all_eq_true.1 hg x (by simpa using hx)
  cases ao with
  | call f args =>
    simp only [wpOp] at h
    split at h
    · rename_i id first cap vs hf hvs
      obtain ⟨hcall, hG⟩ := hΓ _ _ _ _ h
      obtain ⟨c, hop, hcf, hca⟩ := cOp_call hc
      have gf : groundO f = true := g f (by rw [hop]; simp [Op.operands, Call.operands, hcf])
      have ga : args.all groundO = true := List.all_eq_true.2 fun x hx => g x (by rw [hop]; simp only [Op.operands, Call.operands, hcf, Array.mem_append]; right; rw [← hca] at hx; simpa using hx)
      have hfr := ev_sound he gf hf
      have hvr := evs_sound he ga hvs
      generalize hfe : a.eval f = fe at hfr
      cases hfr with
      | @func _ _ fst' _ cap' h1 h2 =>
        have hrun : (execOp a.eval o).run P w = .ok (.enter id (fst' ++ c.args.map a.eval ++ cap')) w := by
          have hi := run_callFunc (P := P) hcall (fst' ++ c.args.map a.eval ++ cap') w
          simp only [execOp, hop, resolve, hcf, hfe, Deferred.ofValue, pure_bind, invoke]
          exact hi
        unfold Oper.wp
        rw [hrun]
        simp only [Oper.upon]
        refine (hG μ w (fst' ++ c.args.map a.eval ++ cap') r hb ?_).mono ?_
        · simp only [Array.toList_append, Array.toList_map]
          rw [hca]
          exact (h1.append hvr).append h2
        · rintro e w' ⟨v, v', μ', S', rfl, hK, hv, hr, hf⟩
          exact hn v v' μ' S' w' hK hv hr hf
    · exact h.elim
  | next it isS =>
    simp only [wpOp] at h
    split at h
    · rename_i x hx
      have hop := cOp_next hc
      have hxr := ev_sound he (g it (by rw [hop]; simp [Op.operands])) hx
      obtain ⟨v, v', S', w', hrun, hK, hv, hr, hf⟩ := next_sound (P := P) r hxr h o.type
      unfold Oper.wp
      have hrun' : (execOp a.eval o).run P w = .ok (.value v') w' := by
        simp only [execOp, hop]
        simp [hrun]
      rw [hrun']
      exact hn v v' μ S' w' hK hv hr hf
    · exact h.elim
  | _ => exact hplain h

def cGuard (ops : Array Oper) (g : Option (Nat × Bool)) : Option (Option (Nat × Bool)) :=
  match g with
  | none => some none
  | some (j, b) => match (ops[j]?).bind (·.dst) with
    | some t => some (some (t, b))
    | none => none

def dstOk (N : Nat) : Option Nat → Bool
  | none => true
  | some d => decide (d < N)

def cOper (P : Program) (N : Nat) (ops : Array Oper) (o : Oper) : Option AOper :=
  match cOp P o, cGuard ops o.guard with
  | some a, some g => if dstOk N o.dst then some ⟨o.dst, a, g⟩ else none
  | _, _ => none

def cOps (P : Program) (N : Nat) (ops : Array Oper) : List Oper → Option (List AOper)
  | [] => some []
  | o :: r => match cOper P N ops o, cOps P N ops r with
    | some a, some as => some (a :: as)
    | _, _ => none

theorem want_sound {μ : Mu} {N : Nat} {ρ : Env} {a : Act} (he : ERel μ N ρ a) {ops : Array Oper} {o : Oper} {g : Option (Nat × Bool)} (hg : cGuard ops o.guard = some g) {b : Bool} (h : wantA ρ g = some b) :
    Region.wanted o (yielded ops a.tmps) = b := by
  unfold cGuard at hg
  unfold Region.wanted
  cases hog : o.guard with
  | none => rw [hog] at hg; cases hg; simp only [wantA, Option.some.injEq] at h; subst h; rfl
  | some p =>
    obtain ⟨j, q⟩ := p
    rw [hog] at hg
    simp only at hg
    split at hg
    · rename_i t ht
      cases hg
      simp only [wantA] at h
      split at h
      · rename_i c hc
        cases h
        have hr := he.get t _ hc
        simp only [yielded, ht, Option.bind_some]
        generalize hgd : a.tmps.getD t undef = u at hr
        cases hr
        have : a.tmps[t]? = some (.bool c) := by
          rw [Array.getD_eq_getD_getElem?] at hgd
          cases hq : a.tmps[t]? with
          | none => rw [hq] at hgd; cases hgd
          | some x => rw [hq] at hgd; simp at hgd; rw [hgd]
        rw [this]
        cases c <;> cases q <;> rfl
      · rename_i c hc
        cases h
        have hr := he.get t _ hc
        simp only [yielded, ht, Option.bind_some]
        generalize hgd : a.tmps.getD t undef = u at hr
        cases hr
        cases hq : a.tmps[t]? with
        | none => rfl
        | some x =>
          rw [Array.getD_eq_getD_getElem?, hq] at hgd
          simp at hgd
          subst hgd
          rfl
      · cases h
    · cases hg

theorem dst_lt {N : Nat} {d : Option Nat} (h : dstOk N d = true) : ∀ t, d = some t → t < N := by
  intro t ht; subst ht; simpa [dstOk] using h

theorem wpOps_sound {B : Nat} {Γ : Fns} (hΓ : FnsOk P B Γ) {N : Nat} {ops : Array Oper} {Q : Exit → Act → World → Prop} : ∀ {l : List Oper} {as : List AOper}, cOps P N ops l = some as →
    ∀ {μ : Mu} {S : AS} {w : World} {ρ : Env} {a : Act} (_ : Rel B μ S w) (_ : Bnd μ S) (_ : ERel μ N ρ a) {K : Env → AS → Prop}, wpOps Γ as ρ S K →
    (∀ ρ' S' μ' w' a', K ρ' S' → Rel B μ' S' w' → ERel μ' N ρ' a' → Fr S S' μ μ' w w' → a'.defers = a.defers → Q .normal a' w') → wpList P ops Q l a w
  | [], as, hc, μ, S, w, ρ, a, r, hb, he, K, h, hQ => by
    simp only [cOps, Option.some.injEq] at hc; subst hc
    exact hQ ρ S μ w a h r he (Fr.refl _ _ _) rfl
  | o :: l, as, hc, μ, S, w, ρ, a, r, hb, he, K, h, hQ => by
    simp only [cOps] at hc
    split at hc
    · rename_i a0 as' h1 h2
      cases hc
      unfold cOper at h1
      split at h1
      · rename_i ao g hop hgd
        split at h1
        · rename_i hdst
          cases h1
          have hd := dst_lt hdst
          simp only [wpOps] at h
          unfold wpList
          split at h
          · exact h.elim
          · rename_i hw
            rw [want_sound he hgd hw]
            simp only [Bool.false_eq_true, if_false]
            exact wpOps_sound hΓ h2 r hb (he.put hd (undef_rel μ)) h (fun ρ' S' μ' w' a' k1 k2 k3 k4 k5 => hQ ρ' S' μ' w' a' k1 k2 k3 k4 (k5.trans (by cases o.dst <;> rfl)))
          · rename_i hw
            rw [want_sound he hgd hw]
            simp only [if_true]
            refine .inl (wpOp_sound hΓ r hb he hop h ?_)
            intro v v' μ' S' w' hK hv hr hf
            exact wpOps_sound hΓ h2 hr (hf.bnd hb) ((he.mono hf.sub).put hd hv) hK (fun ρ' S2 μ2 w2 a2 k1 k2 k3 k4 k5 => hQ ρ' S2 μ2 w2 a2 k1 k2 k3 (hf.trans k4) (k5.trans (by cases o.dst <;> rfl)))
        · cases h1
      · cases h1
    · cases hc

end Go.Ax

/- What an operation hangs on: its operands, and what they point at. -/
namespace Go.Ax

def oL : Option Operand → List Operand
  | none => []
  | some x => [x]

/-- The operands of a resolved operation. -/
def AOp.opnds : AOp → List Operand
  | .val x | .box x | .load _ x | .nilck x | .un _ x | .conv _ x | .fldA _ x | .fld _ _ x | .extr x _ | .len _ x | .clear _ x | .rangeM x | .rangeS x | .next x _ => [x]
  | .pick c a b => [c, a, b]
  | .new _ | .mkMap => []
  | .build _ ps | .buildSl _ _ ps => ps.map (·.2.2)
  | .store _ x v => [x, v]
  | .bin _ x y | .eqNil _ _ x y | .eqB _ x y | .eqC _ x y | .min x y | .max x y | .append _ _ x y | .copy _ x y | .idxSl _ x y | .idxAr _ _ x y | .idxV _ _ _ x y | .idxStr x y | .delete _ x y | .mkSl _ _ x y => [x, y]
  | .lookup _ _ x k _ | .mapEnt _ _ x k => [x, k]
  | .mapUpd _ x k v => [x, k, v]
  | .entSt x s v => [x, s, v]
  | .mkFn _ a b => a ++ b
  | .slice _ x lo hi mx | .sliceA _ _ x lo hi mx => x :: (oL lo ++ oL hi ++ oL mx)
  | .sliceStr x lo hi => x :: (oL lo ++ oL hi)
  | .call f args => f :: args

theorem evs_congr {ρ ρ' : Env} : ∀ {l : List Operand}, (∀ x ∈ l, ev ρ x = ev ρ' x) → evs ρ l = evs ρ' l
  | [], _ => rfl
  | x :: r, h => by
    simp only [evs]
    rw [h x (by simp), evs_congr (l := r) (fun y hy => h y (by simp [hy]))]

theorem evp_congr {ρ ρ' : Env} : ∀ {l : List (Nat × Nat × Operand)}, (∀ x ∈ l.map (·.2.2), ev ρ x = ev ρ' x) → evp ρ l = evp ρ' l
  | [], _ => rfl
  | (a, b, x) :: r, h => by
    simp only [evp]
    rw [h x (by simp), evp_congr (l := r) (fun y hy => h y (by simp at hy ⊢; exact .inr hy))]

theorem evo_congr {ρ ρ' : Env} {x : Option Operand} (h : ∀ y ∈ oL x, ev ρ y = ev ρ' y) : evo ρ x = evo ρ' x := by
  cases x with
  | none => rfl
  | some y => simp only [evo]; rw [h y (by simp [oL])]

theorem step_env {ρ ρ' : Env} {ao : AOp} (h : ∀ x ∈ ao.opnds, ev ρ x = ev ρ' x) (S : AS) : step ao ρ S = step ao ρ' S := by
  cases ao
  case build z ps => simp only [step]; rw [evp_congr (ρ' := ρ') h]
  case buildSl n z ps => simp only [step]; rw [evp_congr (ρ' := ρ') h]
  case mkFn fn a b => simp only [step]; rw [evs_congr (ρ' := ρ') (l := a) (fun x hx => h x (by simp [AOp.opnds, hx])), evs_congr (ρ' := ρ') (l := b) (fun x hx => h x (by simp [AOp.opnds, hx]))]
  case slice e x lo hi mx =>
    simp only [step]
    rw [h x (by simp [AOp.opnds]), evo_congr (ρ' := ρ') (x := lo) (fun y hy => h y (by simp [AOp.opnds, hy])), evo_congr (ρ' := ρ') (x := hi) (fun y hy => h y (by simp [AOp.opnds, hy])), evo_congr (ρ' := ρ') (x := mx) (fun y hy => h y (by simp [AOp.opnds, hy]))]
  case sliceA n e x lo hi mx =>
    simp only [step]
    rw [h x (by simp [AOp.opnds]), evo_congr (ρ' := ρ') (x := lo) (fun y hy => h y (by simp [AOp.opnds, hy])), evo_congr (ρ' := ρ') (x := hi) (fun y hy => h y (by simp [AOp.opnds, hy])), evo_congr (ρ' := ρ') (x := mx) (fun y hy => h y (by simp [AOp.opnds, hy]))]
  case sliceStr x lo hi =>
    simp only [step]
    rw [h x (by simp [AOp.opnds]), evo_congr (ρ' := ρ') (x := lo) (fun y hy => h y (by simp [AOp.opnds, hy])), evo_congr (ρ' := ρ') (x := hi) (fun y hy => h y (by simp [AOp.opnds, hy]))]
  all_goals first
    | rfl
    | (simp only [AOp.opnds, List.forall_mem_cons] at h
       simp only [step]
       simp only [h])

theorem idsE_congr {ρ ρ' : Env} : ∀ {l : List Operand}, (∀ x ∈ l, ev ρ x = ev ρ' x) → idsE ρ l = idsE ρ' l
  | [], _ => rfl
  | x :: r, h => by
    simp only [idsE]
    rw [h x (by simp), idsE_congr (l := r) (fun y hy => h y (by simp [hy]))]

theorem mems_opnds (ao : AOp) : ∀ x ∈ ao.mems, x ∈ ao.opnds := by
  intro x hx
  cases ao <;> simp only [AOp.mems, AOp.opnds, List.mem_cons, List.not_mem_nil, or_false] at hx ⊢ <;> first | exact hx | (exact .inl hx) | skip
  all_goals (rename_i k y; cases k <;> simp only [List.mem_cons, List.not_mem_nil, or_false] at hx; exact hx)


/-- What an operation did to a state: an object changed (or forgotten), an object made. -/
structure Delta where
  upd : Option (Nat × Option AObj)
  new : Option AObj

def Delta.app (c : Delta) (S : AS) : AS :=
  match c.new with
  | none => (match c.upd with | none => S | some (b, o) => S.set b o)
  | some n => (match c.upd with | none => S | some (b, o) => S.set b o).new n

structure Delta.Ok (c : Delta) (ids : List Nat) (S : AS) : Prop where
  upd : ∀ b o', c.upd = some (b, o') → b ∈ ids ∧ (∃ o, S.h b = some o ∧ o.ro = false) ∧ ∀ x, o' = some x → x.ro = false
  new : ∀ o, c.new = some o → o.ro = false

def Delta.nil : Delta := ⟨.none, .none⟩

theorem Delta.nil_ok (ids : List Nat) (S : AS) : Delta.nil.Ok ids S := ⟨by simp [Delta.nil], by simp [Delta.nil]⟩

theorem getCells_local {S T : AS} {b o n : Nat} (h : T.h b = S.h b) : getCells T b o n = getCells S b o n := by unfold getCells; rw [h]

theorem srcCells_local {S T : AS} {esz : Nat} {x : Value} (h : ∀ i ∈ idsV x, T.h i = S.h i) : srcCells T esz x = srcCells S esz x := by
  unfold srcCells
  split
  · rfl
  · exact getCells_local (h _ (by simp [idsV]))
  · rfl
  · rfl

/-- How an operation's doing in one state tells its doing in others. -/
def Local (f : AS → Option (Value × AS)) (ids : List Nat) (wr : Bool) (S : AS) (v : Value) (S' : AS) : Prop :=
  ∃ c : Delta, S' = c.app S ∧ c.Ok ids S ∧ (wr = false → c.upd = .none) ∧ ∀ T : AS, (∀ i ∈ ids, T.h i = S.h i) → (T.nx = S.nx ∨ c.new = .none) → f T = some (v, c.app T)

theorem Local.same {f : AS → Option (Value × AS)} {ids : List Nat} {wr : Bool} {S : AS} {v : Value} {S' : AS} (h : f S = some (v, S')) (g : ∃ r : Option Value, ∀ T : AS, (∀ i ∈ ids, T.h i = S.h i) → f T = r.map (·, T)) : Local f ids wr S v S' := by
  obtain ⟨r, hr⟩ := g
  have h1 := hr S (fun _ _ => rfl)
  rw [h] at h1
  cases r with
  | none => cases h1
  | some u =>
    simp only [Option.map_some, Option.some.injEq, Prod.mk.injEq] at h1
    obtain ⟨rfl, rfl⟩ := h1
    exact ⟨Delta.nil, rfl, Delta.nil_ok _ _, fun _ => rfl, fun T hT _ => by rw [hr T hT]; rfl⟩

theorem setCells_delta {S S' : AS} {b o : Nat} {vs : List Value} (h : setCells S b o vs = some S') : ∃ x : AObj, S' = S.set b (some x) ∧ x.ro = false ∧ (∃ y, S.h b = some y ∧ y.ro = false) ∧ ∀ T : AS, T.h b = S.h b → setCells T b o vs = some (T.set b (some x)) := by
  unfold setCells at h
  split at h
  · rename_i cs hcs
    split at h
    · rename_i hle
      cases h
      refine ⟨_, rfl, rfl, ⟨_, hcs, rfl⟩, fun T hT => ?_⟩
      unfold setCells
      rw [hT, hcs]
      simp [hle]
    · cases h
  · cases h

theorem Local.set {f : AS → Option (Value × AS)} {ids : List Nat} {S : AS} {v : Value} {S' : AS} {b : Nat} {x y : AObj} (hb : b ∈ ids) (hx : x.ro = false) (hy : S.h b = some y) (hyr : y.ro = false) (hS : S' = S.set b (some x))
    (g : ∀ T : AS, (∀ i ∈ ids, T.h i = S.h i) → f T = some (v, T.set b (some x))) : Local f ids true S v S' :=
  ⟨⟨some (b, some x), .none⟩, hS, ⟨fun b' o' e => by cases e; exact ⟨hb, ⟨y, hy, hyr⟩, fun z e => by cases e; exact hx⟩, by simp⟩, by simp, fun T hT _ => g T hT⟩

theorem Local.new {f : AS → Option (Value × AS)} {ids : List Nat} {wr : Bool} {S : AS} {v : Value} {S' : AS} {x : AObj} (hx : x.ro = false) (hS : S' = S.new x)
    (g : ∀ T : AS, (∀ i ∈ ids, T.h i = S.h i) → T.nx = S.nx → f T = some (v, T.new x)) : Local f ids wr S v S' :=
  ⟨⟨.none, some x⟩, hS, ⟨by simp, fun o e => by cases e; exact hx⟩, fun _ => rfl, fun T hT hn => by
    rcases hn with hn | hn
    · exact g T hT hn
    · cases hn⟩

theorem appV_local {esz bytes : Nat} {S S' : AS} {s x v : Value} (h : appV esz bytes S s x = some (v, S')) : Local (fun T => appV esz bytes T s x) (idsV s ++ idsV x) true S v S' := by
  have hx : ∀ T : AS, (∀ i ∈ idsV s ++ idsV x, T.h i = S.h i) → srcCells T esz x = srcCells S esz x := fun T hT => srcCells_local fun i hi => hT i (by simp [hi])
  have hs : ∀ T : AS, (∀ i ∈ idsV s ++ idsV x, T.h i = S.h i) → srcCells T esz s = srcCells S esz s := fun T hT => srcCells_local fun i hi => hT i (by simp [hi])
  unfold appV at h
  split at h
  · cases h
  · rename_i new hnew
    split at h
    · rename_i a len cap
      split at h
      · rename_i hfit
        split at h
        · split at h
          · rename_i h0
            cases h
            exact ⟨Delta.nil, rfl, Delta.nil_ok _ _, fun _ => rfl, fun T hT _ => by simp only [appV]; rw [hx T hT, hnew]; simp only; rw [if_pos hfit, if_pos h0]; rfl⟩
          · cases h
        · rename_i b o q
          split at h
          · rename_i h0
            cases h
            exact ⟨Delta.nil, rfl, Delta.nil_ok _ _, fun _ => rfl, fun T hT _ => by simp only [appV]; rw [hx T hT, hnew]; simp only; rw [if_pos hfit, if_pos h0]; rfl⟩
          · rename_i h0
            obtain ⟨S1, hS1, e⟩ := map_some h
            cases e
            obtain ⟨y, h1, h2, ⟨z, h3, h4⟩, h5⟩ := setCells_delta hS1
            refine Local.set (b := b) (by simp [idsV]) h2 h3 h4 h1 (fun T hT => ?_)
            simp only [appV]; rw [hx T hT, hnew]
            simp [hfit, h0, h5 T (hT b (by simp [idsV]))]
      · rename_i hfit
        split at h
        · rename_i hbig
          split at h
          · cases h
          · rename_i old hold
            split at h
            · rename_i b o q
              split at h
              · rename_i l hl
                split at h
                · rename_i hq
                  cases h
                  refine ⟨⟨some (b, .none), some (.cells false (old ++ new))⟩, rfl, ⟨fun b' o' e => by cases e; exact ⟨by simp [idsV], ⟨_, hl, rfl⟩, by simp⟩, fun o e => by cases e; rfl⟩, by simp, fun T hT hn => ?_⟩
                  rcases hn with hn | hn
                  · simp only [appV]; rw [hx T hT, hnew]
                    simp only [hfit, if_false, hbig, if_true]
                    rw [hs T hT, hold]
                    simp only
                    rw [hT b (by simp [idsV]), hl]
                    simp [hq, hn, Delta.app]
                  · cases hn
                · cases h
              · cases h
            · rename_i hno
              cases h
              refine Local.new rfl rfl (fun T hT hn => ?_)
              simp only [appV]; rw [hx T hT, hnew]
              simp only [hfit, if_false, hbig, if_true]
              rw [hs T hT, hold]
              rcases a with _ | ⟨b, o, q⟩
              · simp [hn]
              · cases q with
                | none => simp [hn]
                | some q => exact absurd rfl (hno b o q)
        · cases h
    · cases h


theorem copyV_local {esz : Nat} {S S' : AS} {s x v : Value} (h : copyV esz S s x = some (v, S')) : Local (fun T => copyV esz T s x) (idsV s ++ idsV x) true S v S' := by
  have hx : ∀ T : AS, (∀ i ∈ idsV s ++ idsV x, T.h i = S.h i) → srcCells T esz x = srcCells S esz x := fun T hT => srcCells_local fun i hi => hT i (by simp [hi])
  unfold copyV at h
  split at h
  · rename_i b o q dl c
    split at h
    · cases h
    · rename_i cs hcs
      split at h
      · rename_i h0
        cases h
        exact ⟨Delta.nil, rfl, Delta.nil_ok _ _, fun _ => rfl, fun T hT _ => by simp only [copyV]; rw [hx T hT, hcs]; simp only; rw [if_pos h0]; rfl⟩
      · rename_i h0
        obtain ⟨S1, hS1, e⟩ := map_some h
        cases e
        obtain ⟨y, h1, h2, ⟨z, h3, h4⟩, h5⟩ := setCells_delta hS1
        refine Local.set (b := b) (by simp [idsV]) h2 h3 h4 h1 (fun T hT => ?_)
        simp only [copyV]; rw [hx T hT, hcs]; simp only; rw [if_neg h0, h5 T (hT b (by simp [idsV]))]; rfl
  · split at h
    · cases h
    · rename_i cs hcs
      cases h
      exact ⟨Delta.nil, rfl, Delta.nil_ok _ _, fun _ => rfl, fun T hT _ => by simp only [copyV]; rw [hx T hT, hcs]; rfl⟩
  · cases h

theorem clearV_local {z : List Value} {S S' : AS} {x : Value} (h : clearV z S x = some S') : Local (fun T => (clearV z T x).map (.tuple #[], ·)) (idsV x) true S (.tuple #[]) S' := by
  unfold clearV at h
  split at h
  · cases h
    exact ⟨Delta.nil, rfl, Delta.nil_ok _ _, fun _ => rfl, fun T hT _ => by simp [clearV, Delta.app, Delta.nil]⟩
  · rename_i b o q n c hn0
    obtain ⟨y, h1, h2, ⟨z', h3, h4⟩, h5⟩ := setCells_delta h
    refine Local.set (b := b) (by simp [idsV]) h2 h3 h4 h1 (fun T hT => ?_)
    cases n with
    | zero => exact absurd rfl hn0
    | succ n => simp [clearV, h5 T (hT b (by simp [idsV]))]
  · cases h

theorem updM_local {kk : KK} {S S' : AS} {x k u : Value} (h : updM kk S x k u = some S') : Local (fun T => (updM kk T x k u).map (undef, ·)) (idsV x) true S undef S' := by
  unfold updM at h
  split at h
  · rename_i r
    split at h
    · rename_i es clock hi
      split at h
      · cases h
      · rename_i j w hf
        cases h
        refine Local.set (b := r) (by simp [idsV]) rfl hi rfl rfl (fun T hT => ?_)
        simp only [updM]; rw [hT r (by simp [idsV]), hi]; simp [hf]
      · rename_i hf
        cases h
        refine Local.set (b := r) (by simp [idsV]) rfl hi rfl rfl (fun T hT => ?_)
        simp only [updM]; rw [hT r (by simp [idsV]), hi]; simp [hf]
    · cases h
  · cases h

theorem delM_local {kk : KK} {S S' : AS} {x k : Value} (h : delM kk S x k = some S') : Local (fun T => (delM kk T x k).map (.tuple #[], ·)) (idsV x) true S (.tuple #[]) S' := by
  unfold delM at h
  split at h
  · cases h
    exact ⟨Delta.nil, rfl, Delta.nil_ok _ _, fun _ => rfl, fun T hT _ => by simp [delM, Delta.app, Delta.nil]⟩
  · rename_i r
    split at h
    · rename_i es clock hi
      split at h
      · cases h
      · rename_i j w hf
        cases h
        refine Local.set (b := r) (by simp [idsV]) rfl hi rfl rfl (fun T hT => ?_)
        simp only [delM]; rw [hT r (by simp [idsV]), hi]; simp [hf]
      · rename_i hf
        cases h
        refine Local.set (b := r) (by simp [idsV]) rfl hi rfl rfl (fun T hT => ?_)
        simp only [delM]; rw [hT r (by simp [idsV]), hi]; simp [hf]
    · cases h
  · cases h

theorem entM_local {kk : KK} {z : Value} {S S' : AS} {x k v : Value} (h : entM kk z S x k = some (v, S')) : Local (fun T => entM kk z T x k) (idsV x) true S v S' := by
  unfold entM at h
  split at h
  · rename_i r
    split at h
    · rename_i es clock hi
      split at h
      · cases h
      · rename_i j w hf
        cases h
        refine Local.set (b := r) (by simp [idsV]) rfl hi rfl rfl (fun T hT => ?_)
        simp only [entM]; rw [hT r (by simp [idsV]), hi]; simp [hf]
      · rename_i hf
        cases h
        refine Local.set (b := r) (by simp [idsV]) rfl hi rfl rfl (fun T hT => ?_)
        simp only [entM]; rw [hT r (by simp [idsV]), hi]; simp [hf]
    · cases h
  · cases h

theorem entSt_local {S S' : AS} {x k u : Value} (h : entSt S x k u = some S') : Local (fun T => (entSt T x k u).map (undef, ·)) (idsV x) true S undef S' := by
  unfold entSt at h
  split at h
  · rename_i r kq n
    split at h
    · rename_i es clock hi
      split at h
      · rename_i j hj
        cases h
        refine Local.set (b := r) (by simp [idsV]) rfl hi rfl rfl (fun T hT => ?_)
        simp only [entSt]; rw [hT r (by simp [idsV]), hi]; simp [hj]
      · cases h
    · cases h
  · cases h

theorem step_local {ao : AOp} {ρ : Env} {S S' : AS} {v : Value} (h : step ao ρ S = some (v, S')) : Local (fun T => step ao ρ T) (idsE ρ ao.mems) ao.isWrite S v S' := by
  have val : (∃ r : Option Value, ∀ T : AS, step ao ρ T = r.map (·, T)) → Local (fun T => step ao ρ T) (idsE ρ ao.mems) ao.isWrite S v S' := fun ⟨r, hr⟩ => Local.same h ⟨r, fun T _ => hr T⟩
  cases ao
  case val x => exact val ⟨ev ρ x, fun T => rfl⟩
  case pick c a b =>
    refine val ⟨(match ev ρ c with | some (.bool t) => if t then ev ρ a else ev ρ b | _ => none), fun T => ?_⟩
    simp only [step]
    rcases ev ρ c with _ | q
    · rfl
    · cases q <;> first | rfl | (simp only; split <;> rfl)
  case new cs => simp only [step] at h; cases h; exact Local.new rfl rfl (fun T hT hn => by simp [step, hn])
  case box x =>
    simp only [step] at h
    split at h
    · rename_i u hu
      split at h
      · rename_i hk; cases h; exact Local.new rfl rfl (fun T hT hn => by simp [step, hn, hu, hk])
      · cases h
    · cases h
  case build z ps =>
    refine val ⟨(match evp ρ ps with | some vs => (fillL z vs).map fun cs => .agg cs.toArray | none => none), fun T => ?_⟩
    simp only [step]
    cases evp ρ ps with
    | none => rfl
    | some vs => simp only; cases fillL z vs <;> rfl
  case buildSl n z ps =>
    simp only [step] at h
    split at h
    · rename_i vs hvs
      obtain ⟨cs, hcs, e⟩ := map_some h
      cases e
      exact Local.new rfl rfl (fun T hT hn => by simp [step, hn, hvs, hcs])
    · cases h
  case load n x =>
    simp only [step] at h
    split at h
    · rename_i b o hx
      refine Local.same (S := S) (by simp only [step]; rw [hx]; exact h) ⟨(match getCells S b o (sizeN n) with | some cs => mkV n cs | none => none), fun T hT => ?_⟩
      simp only [step]; rw [hx]; simp only
      rw [getCells_local (hT b (by simp [AOp.mems, idsE, hx, idsV]))]
      cases getCells S b o (sizeN n) <;> rfl
    · cases h
  case store n x y =>
    simp only [step] at h
    split at h
    · rename_i b o u hx hy
      split at h
      · rename_i hcond
        obtain ⟨S1, hS1, e⟩ := map_some h
        cases e
        obtain ⟨y', h1, h2, ⟨z, h3, h4⟩, h5⟩ := setCells_delta hS1
        refine Local.set (b := b) (by simp [AOp.mems, idsE, hx, idsV]) h2 h3 h4 h1 (fun T hT => ?_)
        simp [step, hx, hy, hcond, h5 T (hT b (by simp [AOp.mems, idsE, hx, idsV]))]
      · cases h
    · cases h
  case nilck x =>
    refine val ⟨(match ev ρ x with | some (.pointer (some a)) => some (.pointer (some a)) | _ => none), fun T => ?_⟩
    simp only [step]
    rcases ev ρ x with _ | q
    · rfl
    · cases q <;> try rfl
      rename_i a; cases a <;> rfl
  case bin op x y =>
    refine val ⟨(match ev ρ x, ev ρ y with | some a, some b => binV op a b | _, _ => none), fun T => ?_⟩
    simp only [step]; cases ev ρ x <;> cases ev ρ y <;> rfl
  case eqNil k neg x y =>
    refine val ⟨(match ev ρ x, ev ρ y with | some a, some b => (nilEq k a b).map fun t => .bool (t != neg) | _, _ => none), fun T => ?_⟩
    simp only [step]
    rcases ev ρ x with _ | u <;> rcases ev ρ y with _ | w <;> try rfl
    simp only; cases nilEq k u w <;> rfl
  case eqB neg x y =>
    refine val ⟨(match ev ρ x, ev ρ y with | some (.bool a), some (.bool b) => some (.bool ((a == b) != neg)) | _, _ => none), fun T => ?_⟩
    simp only [step]
    rcases ev ρ x with _ | u <;> rcases ev ρ y with _ | w <;> try rfl
    · cases u <;> rfl
    · cases u <;> cases w <;> rfl
  case eqC neg x y =>
    refine val ⟨(match ev ρ x, ev ρ y with | some a, some b => (keyEq a b).map fun t => .bool (t != neg) | _, _ => none), fun T => ?_⟩
    simp only [step]
    rcases ev ρ x with _ | u <;> rcases ev ρ y with _ | w <;> try rfl
    simp only; cases keyEq u w <;> rfl
  case un op x =>
    refine val ⟨(match ev ρ x with | some a => unV op a | none => none), fun T => ?_⟩
    simp only [step]; cases ev ρ x <;> rfl
  case conv k x =>
    refine val ⟨(match ev ρ x with | some (.int _ n) => some (.int k (k.wrap n)) | _ => none), fun T => ?_⟩
    simp only [step]
    rcases ev ρ x with _ | q
    · rfl
    · cases q <;> rfl
  case mkFn fn a b =>
    refine val ⟨(match evs ρ a, evs ρ b with | some a, some b => some (.func fn a.toArray b.toArray) | _, _ => none), fun T => ?_⟩
    simp only [step]; cases evs ρ a <;> cases evs ρ b <;> rfl
  case mkMap => simp only [step] at h; cases h; exact Local.new rfl rfl (fun T hT hn => by simp [step, hn])
  case mkSl z b l c =>
    simp only [step] at h
    split at h
    · rename_i u1 u2 h1 h2
      have h0 := h
      unfold mkSl at h
      split at h
      · split at h
        · rename_i hcond
          cases h
          exact Local.new rfl rfl (fun T hT hn => by simp [step, h1, h2, mkSl, hcond, hn])
        · cases h
      · cases h
    · cases h
  case slice e x lo hi mx =>
    refine val ⟨(match ev ρ x, evo ρ lo, evo ρ hi, evo ρ mx with | some x, some lo, some hi, some mx => sliceV e x lo hi mx | _, _, _, _ => none), fun T => ?_⟩
    simp only [step]; cases ev ρ x <;> cases evo ρ lo <;> cases evo ρ hi <;> cases evo ρ mx <;> rfl
  case sliceA n e x lo hi mx =>
    refine val ⟨(match ev ρ x, evo ρ lo, evo ρ hi, evo ρ mx with | some x, some lo, some hi, some mx => Ax.sliceA n e x lo hi mx | _, _, _, _ => none), fun T => ?_⟩
    simp only [step]; cases ev ρ x <;> cases evo ρ lo <;> cases evo ρ hi <;> cases evo ρ mx <;> rfl
  case sliceStr x lo hi =>
    refine val ⟨(match ev ρ x, evo ρ lo, evo ρ hi with | some x, some lo, some hi => Ax.sliceStr x lo hi | _, _, _ => none), fun T => ?_⟩
    simp only [step]; cases ev ρ x <;> cases evo ρ lo <;> cases evo ρ hi <;> rfl
  case fldA off x =>
    refine val ⟨(match ev ρ x with | some a => addOff a off | none => none), fun T => ?_⟩
    simp only [step]; cases ev ρ x <;> rfl
  case fld n off x =>
    refine val ⟨(match ev ρ x with | some a => partV n a off | none => none), fun T => ?_⟩
    simp only [step]; cases ev ρ x <;> rfl
  case idxSl e x i =>
    refine val ⟨(match ev ρ x, ev ρ i with | some a, some b => Ax.idxSl e a b | _, _ => none), fun T => ?_⟩
    simp only [step]; cases ev ρ x <;> cases ev ρ i <;> rfl
  case idxAr n e x i =>
    refine val ⟨(match ev ρ x, ev ρ i with | some a, some b => Ax.idxAr n e a b | _, _ => none), fun T => ?_⟩
    simp only [step]; cases ev ρ x <;> cases ev ρ i <;> rfl
  case idxV l e n x i =>
    refine val ⟨(match ev ρ x, ev ρ i with | some a, some b => Ax.idxV l e n a b | _, _ => none), fun T => ?_⟩
    simp only [step]; cases ev ρ x <;> cases ev ρ i <;> rfl
  case idxStr x i =>
    refine val ⟨(match ev ρ x, ev ρ i with | some a, some b => Ax.idxStr a b | _, _ => none), fun T => ?_⟩
    simp only [step]; cases ev ρ x <;> cases ev ρ i <;> rfl
  case lookup kk z x k ok =>
    simp only [step] at h
    split at h
    · rename_i u1 u2 h1 h2
      refine Local.same (S := S) (by simp only [step]; rw [h1, h2]; exact h) ⟨lookM kk z S u1 u2 ok, fun T hT => ?_⟩
      simp only [step]; rw [h1, h2]; simp only
      have : lookM kk z T u1 u2 ok = lookM kk z S u1 u2 ok := by
        unfold lookM
        cases u1 <;> try rfl
        rename_i r
        cases r with
        | none => rfl
        | some r => simp only; rw [hT r (by simp [AOp.mems, idsE, h1, idsV])]
      rw [this]
    · cases h
  case mapUpd kk x k y =>
    simp only [step] at h
    split at h
    · rename_i u1 u2 u3 h1 h2 h3
      obtain ⟨S1, hS1, e⟩ := map_some h
      cases e
      have := updM_local hS1
      simp only [AOp.mems, idsE, h1, List.append_nil, AOp.isWrite]
      refine (show Local (fun T => (updM kk T u1 u2 u3).map (undef, ·)) (idsV u1) true S undef S' → _ from fun hh => ?_) this
      obtain ⟨c, k1, k2, k3, k4⟩ := hh
      exact ⟨c, k1, k2, k3, fun T hT hn => by simp only [step]; rw [h1, h2, h3]; exact k4 T hT hn⟩
    · cases h
  case mapEnt kk z x k =>
    simp only [step] at h
    split at h
    · rename_i u1 u2 h1 h2
      obtain ⟨c, k1, k2, k3, k4⟩ := entM_local h
      simp only [AOp.mems, idsE, h1, List.append_nil, AOp.isWrite]
      exact ⟨c, k1, k2, k3, fun T hT hn => by simp only [step]; rw [h1, h2]; exact k4 T hT hn⟩
    · cases h
  case entSt x s y =>
    simp only [step] at h
    split at h
    · rename_i u1 u2 u3 h1 h2 h3
      obtain ⟨S1, hS1, e⟩ := map_some h
      cases e
      obtain ⟨c, k1, k2, k3, k4⟩ := entSt_local hS1
      simp only [AOp.mems, idsE, h1, List.append_nil, AOp.isWrite]
      exact ⟨c, k1, k2, k3, fun T hT hn => by simp only [step]; rw [h1, h2, h3]; exact k4 T hT hn⟩
    · cases h
  case extr x i =>
    refine val ⟨(match ev ρ x with | some a => Ax.extr a i | none => none), fun T => ?_⟩
    simp only [step]; cases ev ρ x <;> rfl
  case len k x =>
    simp only [step] at h
    split at h
    · rename_i u hx
      refine Local.same (S := S) (by simp only [step]; rw [hx]; exact h) ⟨lenV k S u, fun T hT => ?_⟩
      simp only [step]; rw [hx]; simp only
      have : lenV k T u = lenV k S u := by
        unfold lenV
        cases k <;> cases u <;> try rfl
        rename_i r
        cases r with
        | none => rfl
        | some r => simp only; rw [hT r (by simp [AOp.mems, idsE, hx, idsV])]
      rw [this]
    · cases h
  case min x y =>
    refine val ⟨(match ev ρ x, ev ρ y with | some a, some b => minV a b | _, _ => none), fun T => ?_⟩
    simp only [step]; cases ev ρ x <;> cases ev ρ y <;> rfl
  case max x y =>
    refine val ⟨(match ev ρ x, ev ρ y with | some a, some b => maxV a b | _, _ => none), fun T => ?_⟩
    simp only [step]; cases ev ρ x <;> cases ev ρ y <;> rfl
  case append e b s x =>
    simp only [step] at h
    split at h
    · rename_i u1 u2 h1 h2
      obtain ⟨c, k1, k2, k3, k4⟩ := appV_local h
      simp only [AOp.mems, idsE, h1, h2, List.append_nil, AOp.isWrite]
      exact ⟨c, k1, k2, k3, fun T hT hn => by simp only [step]; rw [h1, h2]; exact k4 T hT hn⟩
    · cases h
  case copy e d s =>
    simp only [step] at h
    split at h
    · rename_i u1 u2 h1 h2
      obtain ⟨c, k1, k2, k3, k4⟩ := copyV_local h
      simp only [AOp.mems, idsE, h1, h2, List.append_nil, AOp.isWrite]
      exact ⟨c, k1, k2, k3, fun T hT hn => by simp only [step]; rw [h1, h2]; exact k4 T hT hn⟩
    · cases h
  case clear z x =>
    simp only [step] at h
    split at h
    · rename_i u1 h1
      obtain ⟨S1, hS1, e⟩ := map_some h
      cases e
      obtain ⟨c, k1, k2, k3, k4⟩ := clearV_local hS1
      simp only [AOp.mems, idsE, h1, List.append_nil, AOp.isWrite]
      exact ⟨c, k1, k2, k3, fun T hT hn => by simp only [step]; rw [h1]; exact k4 T hT hn⟩
    · cases h
  case delete kk x k =>
    simp only [step] at h
    split at h
    · rename_i u1 u2 h1 h2
      obtain ⟨S1, hS1, e⟩ := map_some h
      cases e
      obtain ⟨c, k1, k2, k3, k4⟩ := delM_local hS1
      simp only [AOp.mems, idsE, h1, List.append_nil, AOp.isWrite]
      exact ⟨c, k1, k2, k3, fun T hT hn => by simp only [step]; rw [h1, h2]; exact k4 T hT hn⟩
    · cases h
  case call f args => simp only [step] at h; cases h
  case rangeM x =>
    simp only [step] at h
    split at h
    · rename_i hx; cases h; exact Local.new rfl rfl (fun T hT hn => by simp [step, hx, hn])
    · rename_i m hx
      split at h
      · rename_i es clock hm
        cases h
        exact Local.new rfl rfl (fun T hT hn => by simp only [step]; rw [hx]; simp only; rw [hT m (by simp [AOp.mems, idsE, hx, idsV]), hm]; simp [hn])
      · cases h
    · cases h
  case rangeS x =>
    simp only [step] at h
    split at h
    · rename_i s hx; cases h; exact Local.new rfl rfl (fun T hT hn => by simp [step, hx, hn])
    · cases h
  case next it b => simp only [step] at h; cases h

end Go.Ax

/- Regions whose order is open: what is looked at, and the trace of one order. -/
namespace Go.Ax
variable {P : Program}

def AOp.allocs : AOp → Bool
  | .new _ | .box _ | .buildSl _ _ _ | .mkMap | .mkSl _ _ _ _ | .append _ _ _ _ | .rangeM _ | .rangeS _ => true
  | _ => false

/-- Does an operation come to memory? -/
def AOp.rel (a : AOp) : Bool := !a.mems.isEmpty || a.allocs || a.isCall

def tmpsO : List Operand → List Nat
  | [] => []
  | .tmp t :: r => t :: tmpsO r
  | _ :: r => tmpsO r

/-- The temporaries that an operation looks at. -/
def AOper.looks (a : AOper) : List Nat := tmpsO a.op.opnds ++ (match a.guard with | some (t, _) => [t] | none => [])

def inO (d : Option Nat) (l : List Nat) : Bool := match d with | some t => l.contains t | none => false

def apartA (x y : AOper) : Bool := !inO x.dst y.looks && !inO y.dst x.looks

structure DItem where
  i : Nat
  ao : AOper
  U : List Nat
  cl : List Nat

def edgesOf (o : Oper) : List Nat := (o.after.toList.filter (Region.binds .any)).map (·.on)

def clOf (acc : List DItem) (d : Nat) : List Nat := match acc.find? (fun x => x.i == d) with | some x => x.cl | none => []

def dstNe (a b : Option Nat) : Bool := match a, b with | some x, some y => x != y | _, _ => true

/-- May this item come behind those that stand in either order with it? (k: the place of the first.) -/
def unOk (ao : AOper) (U cl : List Nat) : Nat → List DItem → Bool
  | _, [] => true
  | k, x :: r => (cl.contains x.i || (!x.ao.op.isCall && apartA x.ao ao && (!ao.op.rel || !x.ao.op.rel || U.contains k))) && unOk ao U cl (k + 1) r

theorem unOk_at {ao : AOper} {U cl : List Nat} : ∀ {l : List DItem} {k : Nat}, unOk ao U cl k l = true → ∀ q x, l[q]? = some x → x.i ∉ cl → x.ao.op.isCall = false ∧ apartA x.ao ao = true ∧ (ao.op.rel = true → x.ao.op.rel = true → k + q ∈ U)
  | [], k, _, q, x, hq, _ => by simp at hq
  | y :: r, k, h, q, x, hq, hn => by
    simp only [unOk, Bool.and_eq_true, Bool.or_eq_true, Bool.not_eq_true'] at h
    cases q with
    | zero =>
      simp only [List.getElem?_cons_zero, Option.some.injEq] at hq
      subst hq
      rcases h.1 with h1 | h1
      · exact absurd (by simpa using h1) hn
      · refine ⟨h1.1.1, h1.1.2, fun k1 k2 => ?_⟩
        rcases h1.2 with (h2 | h2) | h2
        · rw [k1] at h2; cases h2
        · rw [k2] at h2; cases h2
        · simpa using h2
    | succ q =>
      simp only [List.getElem?_cons_succ] at hq
      have := unOk_at h.2 q x hq hn
      rwa [show k + 1 + q = k + (q + 1) by omega] at this

def cDraw (P : Program) (N : Nat) (ops : Array Oper) : List (Nat × List Nat × List Nat) → List DItem → Option (List DItem)
  | [], acc => some acc
  | (i, U, cl) :: r, acc => match ops[i]? with
    | none => none
    | some o => match cOper P N ops o with
      | none => none
      | some ao =>
        if (edgesOf o).all (fun d => acc.any fun x => x.i == d) && acc.all (fun x => x.i != i && dstNe x.ao.dst ao.dst) && cl.all (fun c => (edgesOf o).contains c || (edgesOf o).any fun d => (clOf acc d).contains c) && unOk ao U cl 0 acc then
          cDraw P N ops r (acc ++ [⟨i, ao, U, cl⟩])
        else none

structure GoodAt (P : Program) (N : Nat) (ops : Array Oper) (acc : List DItem) (it : DItem) : Prop where
  op : ∃ o, ops[it.i]? = some o ∧ cOper P N ops o = some it.ao ∧ (∀ d ∈ edgesOf o, ∃ x ∈ acc, x.i = d) ∧ ∀ c ∈ it.cl, c ∈ edgesOf o ∨ ∃ d ∈ edgesOf o, c ∈ clOf acc d
  ne : ∀ x ∈ acc, x.i ≠ it.i ∧ dstNe x.ao.dst it.ao.dst = true
  un : ∀ q x, acc[q]? = some x → x.i ∉ it.cl → x.ao.op.isCall = false ∧ apartA x.ao it.ao = true ∧ (it.ao.op.rel = true → x.ao.op.rel = true → q ∈ it.U)

inductive Chain (P : Program) (N : Nat) (ops : Array Oper) : List DItem → Prop
  | nil : Chain P N ops []
  | snoc {acc : List DItem} {it : DItem} (h : Chain P N ops acc) (g : GoodAt P N ops acc it) : Chain P N ops (acc ++ [it])

theorem cDraw_chain {N : Nat} {ops : Array Oper} : ∀ {l : List (Nat × List Nat × List Nat)} {acc items : List DItem}, Chain P N ops acc → cDraw P N ops l acc = some items → Chain P N ops items
  | [], acc, items, h, hc => by simp only [cDraw, Option.some.injEq] at hc; subst hc; exact h
  | (i, U, cl) :: r, acc, items, h, hc => by
    simp only [cDraw] at hc
    split at hc
    · cases hc
    · rename_i o ho
      split at hc
      · cases hc
      · rename_i ao hao
        split at hc
        · rename_i hcond
          simp only [Bool.and_eq_true] at hcond
          obtain ⟨⟨⟨h1, h2⟩, h3⟩, h4⟩ := hcond
          have g : GoodAt P N ops acc ⟨i, ao, U, cl⟩ := by
            refine ⟨⟨o, ho, hao, ?_, ?_⟩, ?_, ?_⟩
            · intro d hd
              have := List.all_eq_true.1 h1 d hd
              simp only [List.any_eq_true, beq_iff_eq] at this
              exact this
            · intro c hc
              have := List.all_eq_true.1 h3 c hc
              simp only [Bool.or_eq_true, List.any_eq_true] at this
              rcases this with h5 | ⟨d, h5, h6⟩
              · exact .inl (by simpa using h5)
              · exact .inr ⟨d, h5, by simpa using h6⟩
            · intro x hx
              have := List.all_eq_true.1 h2 x hx
              simpa using this
            · intro q x hq hx
              have := unOk_at h4 q x hq hx
              rwa [Nat.zero_add] at this
          exact cDraw_chain (.snoc h g) hc
        · cases hc

theorem Chain.at {N : Nat} {ops : Array Oper} {items : List DItem} (h : Chain P N ops items) : ∀ {p : Nat} {it : DItem}, items[p]? = some it → GoodAt P N ops (items.take p) it := by
  induction h with
  | nil => intro p it hp; simp at hp
  | @snoc acc x h g ih =>
    intro p it hp
    rcases Nat.lt_or_ge p acc.length with hlt | hge
    · rw [List.getElem?_append_left hlt] at hp
      rw [List.take_append_of_le_length (by omega)]
      exact ih hp
    · rw [List.getElem?_append_right hge] at hp
      have h0 : p - acc.length = 0 := by
        rcases Nat.eq_zero_or_pos (p - acc.length) with h0 | h0
        · exact h0
        · rw [List.getElem?_eq_none (by simp; omega)] at hp; cases hp
      rw [h0] at hp
      simp at hp
      subst hp
      have : p = acc.length := by omega
      rw [this, List.take_left']
      · exact g
      · rfl

theorem Chain.inj {N : Nat} {ops : Array Oper} {items : List DItem} (h : Chain P N ops items) {p q : Nat} {x y : DItem} (hp : items[p]? = some x) (hq : items[q]? = some y) (he : x.i = y.i) : p = q := by
  have key : ∀ {p q : Nat} {x y : DItem}, items[p]? = some x → items[q]? = some y → p < q → x.i ≠ y.i := by
    intro p q x y hp hq hlt
    exact ((h.at hq).ne x (List.mem_of_getElem? (i := p) (by rw [List.getElem?_take_of_lt hlt]; exact hp))).1
  rcases Nat.lt_trichotomy p q with hlt | heq | hgt
  · exact absurd he (key hp hq hlt)
  · exact heq
  · exact absurd he.symm (key hq hp hgt)

/-- Whoever has been listed with all that it waits for has been listed with all that this waits for. -/
theorem Chain.closed {N : Nat} {ops : Array Oper} {items : List DItem} (h : Chain P N ops items) {L : Nat → Bool} (hL : ∀ i o, ops[i]? = some o → L i = true → ∀ d ∈ edgesOf o, L d = true) :
    ∀ {p : Nat} {it : DItem}, items[p]? = some it → (∀ o, ops[it.i]? = some o → ∀ d ∈ edgesOf o, L d = true) → ∀ c ∈ it.cl, L c = true := by
  intro p
  induction p using Nat.strongRecOn with
  | _ p ih =>
    intro it hp hr c hc
    obtain ⟨o, h1, h2, h3, h4⟩ := (h.at hp).op
    rcases h4 c hc with hc | ⟨d, hd, hc⟩
    · exact hr o h1 c hc
    · unfold clOf at hc
      split at hc
      · rename_i x hx
        have hxi := List.find?_some hx
        simp only [beq_iff_eq] at hxi
        have hxm := List.mem_of_find?_eq_some hx
        obtain ⟨q, hq⟩ := List.getElem?_of_mem hxm
        have hqp : q < p := by
          rcases Nat.lt_or_ge q p with h5 | h5
          · exact h5
          · rw [List.getElem?_eq_none (by simp; omega)] at hq; cases hq
        rw [List.getElem?_take_of_lt hqp] at hq
        refine ih q hqp hq (fun o' ho' d' hd' => hL x.i o' ho' ?_ d' hd') c hc
        rw [hxi]; exact hr o h1 d hd
      · simp at hc

theorem ev_look {ρ ρ' : Env} {x : Operand} (h : ∀ t, x = .tmp t → look ρ t = look ρ' t) : ev ρ x = ev ρ' x := by
  cases x with
  | tmp t => exact h t rfl
  | _ => rfl

theorem mem_tmpsO {t : Nat} : ∀ {l : List Operand}, .tmp t ∈ l → t ∈ tmpsO l
  | x :: r, h => by
    rcases List.mem_cons.1 h with h | h
    · subst h; simp [tmpsO]
    · have := mem_tmpsO h
      cases x <;> simp [tmpsO, this]

theorem ev_looks {ρ ρ' : Env} {a : AOper} (h : ∀ t ∈ a.looks, look ρ t = look ρ' t) : (∀ x ∈ a.op.opnds, ev ρ x = ev ρ' x) ∧ wantA ρ a.guard = wantA ρ' a.guard := by
  constructor
  · intro x hx
    exact ev_look fun t ht => h t (by subst ht; simp only [AOper.looks, List.mem_append]; exact .inl (mem_tmpsO hx))
  · unfold wantA
    cases hg : a.guard with
    | none => rfl
    | some p => simp only; rw [h p.1 (by simp [AOper.looks, hg])]

theorem wpOp_env {Γ : Fns} {ρ ρ' : Env} {ao : AOp} (h : ∀ x ∈ ao.opnds, ev ρ x = ev ρ' x) (S : AS) (K : Value → AS → Prop) : wpOp Γ ao ρ S K ↔ wpOp Γ ao ρ' S K := by
  have hs := step_env h S
  cases ao with
  | call f args =>
    simp only [wpOp]
    rw [h f (by simp [AOp.opnds]), evs_congr (ρ' := ρ') (l := args) (fun x hx => h x (by simp [AOp.opnds, hx]))]
  | next it b => simp only [wpOp]; rw [h it (by simp [AOp.opnds])]
  | _ => simp only [wpOp]; rw [hs]

/-- What an operation that isn't looked at (no memory, nothing made) does: nothing. -/
theorem norel_same {ao : AOp} {ρ : Env} {S S' : AS} {v : Value} (h : step ao ρ S = some (v, S')) (hr : ao.rel = false) : S' = S := by
  simp only [AOp.rel, Bool.or_eq_false_iff, Bool.not_eq_false', List.isEmpty_iff] at hr
  obtain ⟨⟨h1, h2⟩, h3⟩ := hr
  obtain ⟨c, k1, k2, k3, k4⟩ := step_local h
  have hu : c.upd = none := by
    cases hc : c.upd with
    | none => rfl
    | some p =>
      obtain ⟨b, o'⟩ := p
      have := (k2.upd b o' hc).1
      rw [h1] at this; simp [idsE] at this
  have hn : c.new = none := by
    cases hc : c.new with
    | none => rfl
    | some o =>
      exfalso
      have hnx : S'.nx ≠ S.nx := by
        rw [k1]
        simp only [Delta.app, hc, hu]
        simp [AS.new]
      have : S'.nx = S.nx := by
        cases ao <;> simp [AOp.allocs] at h2 <;> simp [AOp.mems] at h1 <;> simp only [step] at h
        all_goals first
          | (cases h; done)
          | skip
        all_goals (repeat' (split at h))
        all_goals first
          | (cases h; done)
          | (cases h; rfl)
          | (obtain ⟨_, _, e⟩ := map_some h; cases e; rfl)
          | skip
      exact hnx this
  rw [k1]
  simp [Delta.app, hu, hn]

end Go.Ax

/- Regions whose order is open: one order stands for all. -/
namespace Go.Ax
variable {P : Program}

theorem over_rel {B : Nat} {μ μ' : Mu} {w w' : World} {H H' : Nat → Option AObj} {T T' : AS} {m m' : Nat} (up : Nat → Bool)
    (rH : Rel B μ ⟨H, m⟩ w) (rT : Rel B μ' T' w') (f : Fr T T' μ μ' w w') (hT : ∀ id o, T.h id = some o → H id = some o)
    (hH : ∀ id, H' id = if up id then T'.h id else H id) (hk : ∀ id o, up id = false → T.h id = some o → o.ro = false → T'.h id = some o) : Rel B μ' ⟨H', m'⟩ w' := by
  have hin : ∀ id, (up id = true ∨ ∃ o, T.h id = some o ∧ o.ro = false) → H' id = T'.h id := by
    intro id h
    rw [hH id]
    by_cases hu : up id = true
    · rw [if_pos hu]
    · rw [if_neg hu]
      rcases h with h | ⟨o, ho, hro⟩
      · exact absurd h hu
      · rw [hT id o ho, hk id o (by simpa using hu) ho hro]
  have hout : ∀ id, ¬ (up id = true ∨ ∃ o, T.h id = some o ∧ o.ro = false) → H' id = H id ∧ ∀ o, T.h id = some o → o.ro = false → False := by
    intro id h
    rw [hH id, if_neg (fun hu => h (.inl hu))]
    exact ⟨rfl, fun o ho hro => h (.inr ⟨o, ho, hro⟩)⟩
  constructor
  · intro id o ho
    by_cases h : up id = true ∨ ∃ o, T.h id = some o ∧ o.ro = false
    · rw [show (AS.mk H' m').h id = H' id from rfl, hin id h] at ho
      exact rT.obj id o ho
    · obtain ⟨h1, h2⟩ := hout id h
      rw [show (AS.mk H' m').h id = H' id from rfl, h1] at ho
      obtain ⟨b, d, z, g1, g2, g3⟩ := rH.obj id o ho
      refine ⟨b, d, z, f.sub _ _ g1, (g2.mono f.sub).same (f.blk b (rH.mu id _ g1) ?_), g3⟩
      intro k ok q hk1 hk2 hk3 hk4
      have := rH.inj k id ok o q _ (hT k ok hk1) ho hk2 hk3 g1 hk4
      subst this
      exact h2 ok hk1 hk2
  · intro i j o o' p q hi hj hro hp hq hpq
    have hi' : H' i = some o := hi
    have hj' : H' j = some o' := hj
    by_cases h1 : up i = true ∨ ∃ o, T.h i = some o ∧ o.ro = false <;> by_cases h2 : up j = true ∨ ∃ o, T.h j = some o ∧ o.ro = false
    · rw [hin i h1] at hi'; rw [hin j h2] at hj'
      exact rT.inj i j o o' p q hi' hj' hro hp hq hpq
    · rw [hin i h1] at hi'
      obtain ⟨e1, e2⟩ := hout j h2
      rw [e1] at hj'
      obtain ⟨b, d, z, g1, _, _⟩ := rH.obj j o' hj'
      have := f.sub _ _ g1
      rw [this] at hq; cases hq
      have hlt := rH.mu j _ g1
      obtain ⟨k, ok, e, k1, k2, k3, k4⟩ := f.own i o p hi' hro hp (by rw [hpq]; exact hlt)
      have := rH.inj k j ok o' e _ (hT k ok k1) hj' k2 k3 g1 (by rw [k4, hpq])
      subst this
      exact (e2 ok k1 k2).elim
    · obtain ⟨e1, e2⟩ := hout i h1
      rw [e1] at hi'
      rw [hin j h2] at hj'
      obtain ⟨b, d, z, g1, _, _⟩ := rH.obj i o hi'
      have := f.sub _ _ g1
      rw [this] at hp; cases hp
      have hlt := rH.mu i _ g1
      cases hro' : o'.ro with
      | false =>
        obtain ⟨k, ok, e, k1, k2, k3, k4⟩ := f.own j o' q hj' hro' hq (by rw [← hpq]; exact hlt)
        have := rH.inj k i ok o e _ (hT k ok k1) hi' k2 k3 g1 (by rw [k4, ← hpq])
        subst this
        exact (e2 ok k1 k2).elim
      | true =>
        have k1 := f.ro j o' hj' hro'
        have k2 := hT j o' k1
        obtain ⟨b', d', z', g1', _, _⟩ := rH.obj j o' k2
        have := f.sub _ _ g1'
        rw [this] at hq; cases hq
        exact rH.inj i j o o' _ _ hi' k2 hro g1 g1' hpq
    · obtain ⟨e1, e2⟩ := hout i h1
      obtain ⟨f1, f2⟩ := hout j h2
      rw [e1] at hi'; rw [f1] at hj'
      obtain ⟨b, d, z, g1, _, _⟩ := rH.obj i o hi'
      obtain ⟨b', d', z', g1', _, _⟩ := rH.obj j o' hj'
      have := f.sub _ _ g1
      rw [this] at hp; cases hp
      have := f.sub _ _ g1'
      rw [this] at hq; cases hq
      exact rH.inj i j o o' _ _ hi' hj' hro g1 g1' hpq
  · exact rT.mu
  · exact rT.size

theorem over_fr {B : Nat} {S0 : AS} {μ0 μ μ' : Mu} {w0 w w' : World} {H H' : Nat → Option AObj} {T T' : AS} {m m' : Nat} (up : Nat → Bool)
    (rH : Rel B μ ⟨H, m⟩ w) (F : Fr S0 ⟨H, m⟩ μ0 μ w0 w) (f : Fr T T' μ μ' w w') (hT : ∀ id o, T.h id = some o → H id = some o)
    (hH : ∀ id, H' id = if up id then T'.h id else H id) (hm : m ≤ m') (hn : ∀ id, T.nx ≤ id → id < T'.nx → S0.nx ≤ id ∧ id < m') : Fr S0 ⟨H', m'⟩ μ0 μ' w0 w' where
  os := f.os.trans F.os
  tape := f.tape.trans F.tape
  output := f.output.trans F.output
  size := Nat.le_trans F.size f.size
  sub := F.sub.trans f.sub
  nx := Nat.le_trans F.nx hm
  fresh := fun i p h1 h2 => by
    cases h : μ i with
    | some x => have := F.fresh i x h1 h; exact ⟨this.1, Nat.lt_of_lt_of_le this.2 hm⟩
    | none => have := f.fresh i p h h2; exact hn i this.1 this.2
  ro := fun i o h1 h2 => by
    have h1' : H' i = some o := h1
    rw [hH i] at h1'
    split at h1'
    · exact F.ro i o (hT i o (f.ro i o h1' h2)) h2
    · exact F.ro i o h1' h2
  blk := fun b hb hn => by
    rw [f.blk b (Nat.lt_of_lt_of_le hb F.size) (fun k ok q h1 h2 h3 h4 => by
      obtain ⟨j, o', e, g1, g2, g3, g4⟩ := F.own k ok q (hT k ok h1) h2 h3 (by omega)
      exact hn j o' e g1 g2 g3 (by omega)), F.blk b hb hn]
  own := fun i o p h1 h2 h3 hb => by
    have h1' : H' i = some o := h1
    rw [hH i] at h1'
    split at h1'
    · obtain ⟨k, ok, e, k1, k2, k3, k4⟩ := f.own i o p h1' h2 h3 (Nat.lt_of_lt_of_le hb F.size)
      obtain ⟨j, o', e', g1, g2, g3, g4⟩ := F.own k ok e (hT k ok k1) k2 k3 (by omega)
      exact ⟨j, o', e', g1, g2, g3, by omega⟩
    · obtain ⟨b, d, z, g1, _, _⟩ := rH.obj i o h1'
      have := f.sub _ _ g1
      rw [this] at h3; cases h3
      exact F.own i o _ h1' h2 g1 hb

/-- Which objects a change hits. -/
def Delta.hits (c : Delta) (S : AS) (id : Nat) : Bool :=
  (match c.upd with | some (b, _) => id == b | none => false) || (c.new.isSome && id == S.nx)

theorem Delta.app_h (c : Delta) (S : AS) (id : Nat) : (c.app S).h id = if c.new.isSome && id == S.nx then c.new else match c.upd with | some (b, o) => if id = b then o else S.h id | none => S.h id := by
  obtain ⟨u, n⟩ := c
  cases n with
  | none =>
    cases u with
    | none => simp [Delta.app]
    | some p => obtain ⟨b, o⟩ := p; simp [Delta.app, AS.set]
  | some n =>
    cases u with
    | none =>
      simp only [Delta.app, AS.new, Option.isSome_some, Bool.true_and, beq_iff_eq]
    | some p =>
      obtain ⟨b, o⟩ := p
      simp only [Delta.app, AS.new, AS.set, Option.isSome_some, Bool.true_and, beq_iff_eq]
      rfl

theorem Delta.app_nx (c : Delta) (S : AS) : (c.app S).nx = S.nx + if c.new.isSome then 1 else 0 := by
  obtain ⟨u, n⟩ := c
  cases n <;> cases u <;> simp [Delta.app, AS.new, AS.set]

theorem Delta.keep {c : Delta} {S : AS} {id : Nat} (h : c.hits S id = false) : (c.app S).h id = S.h id := by
  rw [Delta.app_h]
  simp only [Delta.hits, Bool.or_eq_false_iff] at h
  rw [if_neg (by rw [h.2]; simp)]
  cases hu : c.upd with
  | none => rfl
  | some p => obtain ⟨b, o⟩ := p; rw [hu] at h; simp at h; simp [h.1]

theorem Delta.alike {c : Delta} {S T : AS} (hn : T.nx = S.nx ∨ c.new = none) (id : Nat) : c.hits T id = c.hits S id ∧ (c.hits S id = true → (c.app T).h id = (c.app S).h id) := by
  have e : (c.new.isSome && id == T.nx) = (c.new.isSome && id == S.nx) := by
    rcases hn with hn | hn
    · rw [hn]
    · rw [hn]; rfl
  refine ⟨by unfold Delta.hits; rw [e], fun h => ?_⟩
  rw [Delta.app_h, Delta.app_h, e]
  split
  · rfl
  · rename_i hne
    unfold Delta.hits at h
    cases hu : c.upd with
    | none => rw [hu] at h; simp at h; simp only [Bool.and_eq_true, beq_iff_eq] at hne; exact absurd h hne
    | some p =>
      obtain ⟨b, o⟩ := p
      rw [hu] at h
      simp only [Bool.or_eq_true, beq_iff_eq] at h
      rcases h with h | h
      · simp [h]
      · exact absurd h hne

theorem Delta.hit_ids {c : Delta} {ids : List Nat} {S : AS} (hok : c.Ok ids S) {id : Nat} (h : c.hits S id = true) : (id ∈ ids ∧ S.roAt id = false ∧ c.upd ≠ none ∧ ∃ o, S.h id = some o) ∨ (id = S.nx ∧ S.nx < (c.app S).nx) := by
  unfold Delta.hits at h
  simp only [Bool.or_eq_true, Bool.and_eq_true, beq_iff_eq] at h
  rcases h with h | h
  · cases hu : c.upd with
    | none => rw [hu] at h; cases h
    | some p =>
      obtain ⟨b, o⟩ := p
      rw [hu] at h
      simp only [beq_iff_eq] at h
      subst h
      obtain ⟨h1, ⟨y, h2, h3⟩, _⟩ := hok.upd id o hu
      exact .inl ⟨h1, by simp [AS.roAt, h2, h3], by simp, y, h2⟩
  · refine .inr ⟨h.2, ?_⟩
    rw [Delta.app_nx, h.1]; simp

theorem Delta.roAt_app {c : Delta} {ids : List Nat} {S : AS} (hok : c.Ok ids S) {id : Nat} (h : (c.app S).roAt id = true) : S.roAt id = true := by
  by_cases hh : c.hits S id = true
  · exfalso
    unfold AS.roAt at h
    rw [Delta.app_h] at h
    split at h
    · rename_i heq
      split at heq
      · exact absurd (hok.new _ heq) (by simp [h])
      · rename_i hne
        cases hu : c.upd with
        | none => unfold Delta.hits at hh; rw [hu] at hh; simp at hh; simp only [Bool.and_eq_true, beq_iff_eq] at hne; exact hne hh
        | some p =>
          obtain ⟨b, o⟩ := p
          rw [hu] at heq
          simp only at heq
          split at heq
          · exact absurd ((hok.upd b o hu).2.2 _ heq) (by simp [h])
          · rename_i hid
            unfold Delta.hits at hh
            rw [hu] at hh
            simp only [Bool.or_eq_true, beq_iff_eq] at hh
            rcases hh with hh | hh
            · exact hid hh
            · exact hne hh
    · cases h
  · rw [AS.roAt, Delta.keep (by simpa using hh)] at h
    exact h

/-- One item of the order that stands for all. -/
inductive Ev1 (L : Nat → Bool) (it : DItem) (U' : List DRec) (ρ ρ' : Env) (S S' : AS) (v : Value) (up : Nat → Bool) (rc : DRec) : Prop
  | skip (hw : wantA ρ it.ao.guard = some false) (hv : v = undef) (hS : S' = S) (hu : ∀ id, up id = false) (hr : rc = DRec.none) (hρ : ρ' = putE ρ it.ao.dst v)
  | op (c : Delta) (hw : wantA ρ it.ao.guard = some true) (hc : it.ao.op.isCall = false) (hs : step it.ao.op ρ S = some (v, S')) (hS : S' = c.app S) (hok : c.Ok (idsE ρ it.ao.op.mems) S)
      (hwr : it.ao.op.isWrite = false → c.upd = none) (hloc : ∀ T : AS, (∀ i ∈ idsE ρ it.ao.op.mems, T.h i = S.h i) → (T.nx = S.nx ∨ c.new = none) → step it.ao.op ρ T = some (v, c.app T))
      (hu : ∀ id, up id = c.hits S id) (hr : rc = ⟨it.ao.op.isWrite, idsE ρ it.ao.op.mems, S.nx, S'.nx⟩) (hp : U'.all (okPair (idsE ρ it.ao.op.mems) it.ao.op.isWrite) = true) (hρ : ρ' = putE ρ it.ao.dst v)
  | call (hL : L it.i = true) (hc : it.ao.op.isCall = true) (hw : wantA ρ it.ao.guard = some true) (hu : ∀ id, up id = (!(hidden S U').contains id && !S.roAt id)) (hS : ∀ id, up id = false → S'.h id = S.h id) (hnx : S.nx ≤ S'.nx)
      (hr : rc = DRec.none) (hro : ∀ id, S'.roAt id = true → S.roAt id = true) (hρ : ρ' = putE ρ it.ao.dst v)

theorem Ev1.env {L : Nat → Bool} {it : DItem} {U' : List DRec} {ρ ρ' : Env} {S S' : AS} {v : Value} {up : Nat → Bool} {rc : DRec} (h : Ev1 L it U' ρ ρ' S S' v up rc) : ρ' = putE ρ it.ao.dst v := by cases h <;> assumption

theorem Ev1.nx {L : Nat → Bool} {it : DItem} {U' : List DRec} {ρ ρ' : Env} {S S' : AS} {v : Value} {up : Nat → Bool} {rc : DRec} (h : Ev1 L it U' ρ ρ' S S' v up rc) : S.nx ≤ S'.nx := by
  cases h with
  | skip _ _ hS => rw [hS]; exact Nat.le_refl _
  | op c _ _ _ hS => rw [hS, Delta.app_nx]; omega
  | call _ _ _ _ _ hnx => exact hnx

theorem Ev1.keep {L : Nat → Bool} {it : DItem} {U' : List DRec} {ρ ρ' : Env} {S S' : AS} {v : Value} {up : Nat → Bool} {rc : DRec} (h : Ev1 L it U' ρ ρ' S S' v up rc) {id : Nat} (hid : up id = false) : S'.h id = S.h id := by
  cases h with
  | skip _ _ hS => rw [hS]
  | op c _ _ _ hS _ _ _ hu => rw [hS]; exact Delta.keep (by rw [← hu]; exact hid)
  | call _ _ _ _ hS => exact hS id hid

theorem Ev1.ro {L : Nat → Bool} {it : DItem} {U' : List DRec} {ρ ρ' : Env} {S S' : AS} {v : Value} {up : Nat → Bool} {rc : DRec} (h : Ev1 L it U' ρ ρ' S S' v up rc) {id : Nat} (hid : S'.roAt id = true) : S.roAt id = true := by
  cases h with
  | skip _ _ hS => rw [hS] at hid; exact hid
  | op c _ _ _ hS hok => rw [hS] at hid; exact Delta.roAt_app hok hid
  | call _ _ _ _ _ _ _ hro => exact hro id hid

theorem Ev1.listed {L L' : Nat → Bool} {it : DItem} {U' : List DRec} {ρ ρ' : Env} {S S' : AS} {v : Value} {up : Nat → Bool} {rc : DRec} (h : Ev1 L it U' ρ ρ' S S' v up rc) (hl : ∀ i, L i = true → L' i = true) : Ev1 L' it U' ρ ρ' S S' v up rc := by
  cases h with
  | skip hw hv hS hu hr hρ => exact .skip hw hv hS hu hr hρ
  | op c hw hc hs hS hok hwr hloc hu hr hp hρ => exact .op c hw hc hs hS hok hwr hloc hu hr hp hρ
  | call hL hc hw hu hS hnx hr hro hρ => exact .call (hl _ hL) hc hw hu hS hnx hr hro hρ

/-- The heap behind some items of the order. -/
def ov (l : Nat → Bool) (S : Nat → AS) (up : Nat → Nat → Bool) : Nat → Nat → Option AObj
  | 0, id => (S 0).h id
  | p + 1, id => if l p && up p id then (S (p + 1)).h id else ov l S up p id

theorem ov_vis {l : Nat → Bool} {S : Nat → AS} {up : Nat → Nat → Bool} {f j id : Nat} (hj : j ≤ f) (hkeep : ∀ p, p < j → up p id = false → (S (p + 1)).h id = (S p).h id)
    (h1 : ∀ p, p < j → l p = false → up p id = false) (h2 : ∀ p, j ≤ p → p < f → l p = true → up p id = false) : ov l S up f id = (S j).h id := by
  have a : ∀ p, p ≤ j → ov l S up p id = (S p).h id := by
    intro p
    induction p with
    | zero => intro _; rfl
    | succ p ih =>
      intro hp
      simp only [ov]
      by_cases hl : l p = true
      · by_cases hu : up p id = true
        · rw [if_pos (by simp [hl, hu])]
        · rw [if_neg (by simp [hu]), ih (by omega), hkeep p (by omega) (by simpa using hu)]
      · have hl' : l p = false := by simpa using hl
        rw [if_neg (by simp [hl']), ih (by omega), hkeep p (by omega) (h1 p (by omega) hl')]
  have b : ∀ d, j + d ≤ f → ov l S up (j + d) id = (S j).h id := by
    intro d
    induction d with
    | zero => intro _; exact a j (Nat.le_refl _)
    | succ d ih =>
      intro hd
      have : j + (d + 1) = (j + d) + 1 := by omega
      rw [this]
      simp only [ov]
      rw [if_neg, ih (by omega)]
      intro hh
      simp only [Bool.and_eq_true] at hh
      have := h2 (j + d) (by omega) (by omega) hh.1
      rw [this] at hh
      simp at hh
  have := b (f - j) (by omega)
  rwa [show j + (f - j) = f by omega] at this

theorem ov_exec {l l' : Nat → Bool} {S : Nat → AS} {up : Nat → Nat → Bool} {f j : Nat} (hj : j < f) (hl : ∀ p, p ≠ j → l' p = l p) (hlj : l' j = true) {id : Nat}
    (h : up j id = true → ∀ p, j < p → p < f → l p = true → up p id = false) : ov l' S up f id = if up j id then (S (j + 1)).h id else ov l S up f id := by
  have a : ∀ p, p ≤ j → ov l' S up p id = ov l S up p id := by
    intro p
    induction p with
    | zero => intro _; rfl
    | succ p ih => intro hp; simp only [ov]; rw [hl p (by omega), ih (by omega)]
  have b : ∀ d, j + 1 + d ≤ f → ov l' S up (j + 1 + d) id = if up j id then (S (j + 1)).h id else ov l S up (j + 1 + d) id := by
    intro d
    induction d with
    | zero =>
      intro _
      by_cases hu : up j id = true
      · simp [ov, hlj, hu]
      · have hu' : up j id = false := by simpa using hu
        simp [ov, hu', a j (Nat.le_refl _)]
    | succ d ih =>
      intro hd
      have e : j + 1 + (d + 1) = (j + 1 + d) + 1 := by omega
      rw [e]
      simp only [ov]
      rw [hl (j + 1 + d) (by omega), ih (by omega)]
      by_cases hu : up j id = true
      · by_cases hlp : l (j + 1 + d) = true
        · have := h hu (j + 1 + d) (by omega) (by omega) hlp
          simp [hu, this]
        · simp [hu, hlp]
      · simp [hu]
  have := b (f - (j + 1)) (by omega)
  rwa [show j + 1 + (f - (j + 1)) = f by omega] at this

end Go.Ax

/- Regions whose order is open: whatever order comes, it ends as the one order does. -/
namespace Go.Ax
variable {P : Program}

def lis (items : List DItem) (L : Nat → Bool) (p : Nat) : Bool := match items[p]? with | some it => L it.i | none => false

def upd {α : Type} (g : Nat → α) (k : Nat) (x : α) : Nat → α := fun p => if p = k then x else g p

theorem upd_self {α : Type} (g : Nat → α) (k : Nat) (x : α) : upd g k x k = x := by simp [upd]
theorem upd_ne {α : Type} (g : Nat → α) {k p : Nat} (x : α) (h : p ≠ k) : upd g k x p = g p := by simp [upd, h]

structure Tr where
  ρ : Nat → Env
  S : Nat → AS
  v : Nat → Value
  up : Nat → Nat → Bool
  hs : Nat → DRec

/-- The records of the first items. -/
def Tr.hist (tr : Tr) (p : Nat) : List DRec := (List.range p).map tr.hs

theorem Tr.mem_recs (tr : Tr) {j p : Nat} {U : List Nat} (h : j < p) (hU : j ∈ U) : tr.hs j ∈ recs (tr.hist p) U := by
  unfold recs
  refine List.mem_map.2 ⟨j, hU, ?_⟩
  simp [Tr.hist, List.getD, h]

structure Good (items : List DItem) (L : Nat → Bool) (tr : Tr) (f : Nat) (ρ0 : Env) (S0 : AS) : Prop where
  z1 : tr.ρ 0 = ρ0
  z2 : tr.S 0 = S0
  len : f ≤ items.length
  ev : ∀ p it, p < f → items[p]? = some it → Ev1 L it (recs (tr.hist p) it.U) (tr.ρ p) (tr.ρ (p + 1)) (tr.S p) (tr.S (p + 1)) (tr.v p) (tr.up p) (tr.hs p)
  lt : ∀ p it, items[p]? = some it → L it.i = true → p < f
  dom : ∀ p, p ≤ f → ∀ id o, (tr.S p).h id = some o → id < (tr.S p).nx

theorem Good.item {items : List DItem} {L : Nat → Bool} {tr : Tr} {f : Nat} {ρ0 : Env} {S0 : AS} (g : Good items L tr f ρ0 S0) {p : Nat} (h : p < f) : ∃ it, items[p]? = some it :=
  ⟨items[p]'(Nat.lt_of_lt_of_le h g.len), by simp [Nat.lt_of_lt_of_le h g.len]⟩

theorem Good.nx {items : List DItem} {L : Nat → Bool} {tr : Tr} {f : Nat} {ρ0 : Env} {S0 : AS} (g : Good items L tr f ρ0 S0) {p : Nat} : ∀ {q : Nat}, p ≤ q → q ≤ f → (tr.S p).nx ≤ (tr.S q).nx
  | q, h1, h2 => by
    obtain ⟨d, rfl⟩ := Nat.exists_eq_add_of_le h1
    clear h1
    induction d with
    | zero => exact Nat.le_refl _
    | succ d ih =>
      obtain ⟨it, hit⟩ := g.item (p := p + d) (by omega)
      exact Nat.le_trans (ih (by omega)) (g.ev (p + d) it (by omega) hit).nx

theorem Good.ro {items : List DItem} {L : Nat → Bool} {tr : Tr} {f : Nat} {ρ0 : Env} {S0 : AS} (g : Good items L tr f ρ0 S0) {id p : Nat} : ∀ {q : Nat}, p ≤ q → q ≤ f → (tr.S q).roAt id = true → (tr.S p).roAt id = true
  | q, h1, h2 => by
    obtain ⟨d, rfl⟩ := Nat.exists_eq_add_of_le h1
    clear h1
    induction d with
    | zero => exact fun h => h
    | succ d ih =>
      obtain ⟨it, hit⟩ := g.item (p := p + d) (by omega)
      exact fun h => ih (by omega) ((g.ev (p + d) it (by omega) hit).ro h)

theorem norel_delta {ao : AOp} {ρ : Env} {S S' : AS} {v : Value} {c : Delta} (h : step ao ρ S = some (v, S')) (hr : ao.rel = false) (hS : S' = c.app S) (hok : c.Ok (idsE ρ ao.mems) S) (id : Nat) : c.hits S id = false := by
  have e := norel_same h hr
  simp only [AOp.rel, Bool.or_eq_false_iff, Bool.not_eq_false', List.isEmpty_iff] at hr
  obtain ⟨⟨h1, h2⟩, h3⟩ := hr
  have hu : c.upd = none := by
    cases hc : c.upd with
    | none => rfl
    | some p =>
      obtain ⟨b, o'⟩ := p
      have := (hok.upd b o' hc).1
      rw [h1] at this; simp [idsE] at this
  have hn : c.new = none := by
    cases hc : c.new with
    | none => rfl
    | some o =>
      have : S'.nx = S.nx + 1 := by rw [hS, Delta.app_nx, hc]; rfl
      rw [e] at this; omega
  simp [Delta.hits, hu, hn]

theorem Ev1.rel {L : Nat → Bool} {it : DItem} {U' : List DRec} {ρ ρ' : Env} {S S' : AS} {v : Value} {up : Nat → Bool} {rc : DRec} (h : Ev1 L it U' ρ ρ' S S' v up rc) {id : Nat} (hu : up id = true) : it.ao.op.rel = true := by
  cases h with
  | skip _ _ _ h => rw [h] at hu; cases hu
  | op c _ _ hs hS hok _ _ h =>
    cases hr : it.ao.op.rel with
    | true => rfl
    | false => rw [h, norel_delta hs hr hS hok] at hu; cases hu
  | call _ hc => simp [AOp.rel, hc]

theorem Ev1.touch {L : Nat → Bool} {it : DItem} {U' : List DRec} {ρ ρ' : Env} {S S' : AS} {v : Value} {up : Nat → Bool} {rc : DRec} (h : Ev1 L it U' ρ ρ' S S' v up rc) (hc : it.ao.op.isCall = false) {id : Nat} (hu : up id = true) :
    (id ∈ rc.ids ∧ rc.w = true ∧ S.roAt id = false ∧ ∃ o, S.h id = some o) ∨ (id = S.nx ∧ rc.lo = S.nx ∧ rc.hi = S'.nx ∧ S.nx < S'.nx) := by
  cases h with
  | skip _ _ _ h => rw [h] at hu; cases hu
  | op c _ _ hs hS hok hwr _ h hr =>
    rw [h] at hu
    subst hr
    rcases Delta.hit_ids hok hu with ⟨h1, h2, h3, h4⟩ | ⟨h1, h2⟩
    · left
      refine ⟨h1, ?_, h2, h4⟩
      cases hw : it.ao.op.isWrite with
      | true => rfl
      | false => exact absurd (hwr hw) h3
    · right; exact ⟨h1, rfl, rfl, by rw [hS]; exact h2⟩
  | call _ h => rw [hc] at h; cases h

theorem okPair_at {ids : List Nat} {w : Bool} {r : DRec} (h : okPair ids w r = true) {i : Nat} (hi : i ∈ ids) : ¬ (r.lo ≤ i ∧ i < r.hi) ∧ ((w = true ∨ r.w = true) → i ∉ r.ids) := by
  have := List.all_eq_true.1 h i hi
  simp only [Bool.and_eq_true, Bool.not_eq_true', Bool.and_eq_false_iff, decide_eq_false_iff_not, Bool.or_eq_false_iff] at this
  obtain ⟨h1, h2⟩ := this
  refine ⟨fun hh => ?_, fun hw hm => ?_⟩
  · rcases h1 with h1 | h1
    · exact h1 hh.1
    · exact h1 hh.2
  · rcases h2 with h2 | h2
    · rcases hw with hw | hw
      · rw [h2.1] at hw; cases hw
      · rw [h2.2] at hw; cases hw
    · simp at h2; exact h2 hm

theorem hidden_at {S : AS} {r : DRec} {i : Nat} : ∀ {l : List DRec}, r ∈ l → (hidden S l).contains i = false → (S.roAt i = false → i ∉ r.ids) ∧ ¬ (r.lo ≤ i ∧ i < r.hi)
  | x :: l, hr, h => by
    simp only [hidden, List.contains_eq_mem, List.mem_append, decide_eq_false_iff_not, not_or] at h
    rcases List.mem_cons.1 hr with rfl | hr
    · refine ⟨fun hro hm => h.1.1 (List.mem_filter.2 ⟨hm, by simp [hro]⟩), fun hh => h.1.2 ?_⟩
      rw [List.mem_range'_1]
      omega
    · exact hidden_at hr (by simpa using h.2)

/-- What a later item does to what an earlier one comes to. -/
theorem Ev1.later {L : Nat → Bool} {it : DItem} {U' : List DRec} {ρ ρ' : Env} {S S' : AS} {v : Value} {up : Nat → Bool} {rc : DRec} (h : Ev1 L it U' ρ ρ' S S' v up rc) {r : DRec} (hr : r ∈ U') {id : Nat} (hu : up id = true) :
    id = S.nx ∧ S.nx < S'.nx ∧ it.ao.op.isCall = false ∨ (id ∉ r.ids ∧ ¬ (r.lo ≤ id ∧ id < r.hi)) := by
  have h0 := h
  cases h with
  | skip _ _ _ h => rw [h] at hu; cases hu
  | op c _ hc hs hS hok hwr _ h hrc hp =>
    rcases h0.touch hc hu with ⟨h1, h2, h3, _⟩ | ⟨h1, h2, h3, h4⟩
    · right
      subst hrc
      obtain ⟨k1, k2⟩ := okPair_at (List.all_eq_true.1 hp r hr) h1
      exact ⟨k2 (.inl h2), k1⟩
    · exact .inl ⟨h1, h4, hc⟩
  | call _ _ _ h =>
    rw [h] at hu
    simp only [Bool.and_eq_true, Bool.not_eq_true'] at hu
    obtain ⟨k1, k2⟩ := hidden_at hr hu.1
    exact .inr ⟨k1 hu.2, k2⟩

/-- What has been listed although it comes later, and what has not although it comes earlier, stand off. -/
structure Off (items : List DItem) (L : Nat → Bool) (f j : Nat) : Prop where
  before : ∀ p x, p < j → items[p]? = some x → L x.i = false → x.ao.op.isCall = false ∧ ∀ y, items[j]? = some y → apartA x.ao y.ao = true ∧ (y.ao.op.rel = true → x.ao.op.rel = true → p ∈ y.U)
  after : ∀ p x, j < p → items[p]? = some x → L x.i = true → ∀ y, items[j]? = some y → y.ao.op.isCall = false ∧ apartA y.ao x.ao = true ∧ (x.ao.op.rel = true → y.ao.op.rel = true → j ∈ x.U)

theorem Chain.off {N : Nat} {ops : Array Oper} {items : List DItem} (h : Chain P N ops items) {L : Nat → Bool} (hL : ∀ i o, ops[i]? = some o → L i = true → ∀ d ∈ edgesOf o, L d = true) {f j : Nat} {it : DItem} (hj : items[j]? = some it)
    (hn : L it.i = false) (hr : ∀ o, ops[it.i]? = some o → ∀ d ∈ edgesOf o, L d = true) : Off items L f j where
  before := fun p x hp hx hl => by
    have hc := h.closed hL hj hr
    have hno : x.i ∉ it.cl := fun hm => by rw [hc _ hm] at hl; cases hl
    obtain ⟨k1, k2, k3⟩ := (h.at hj).un p x (by rw [List.getElem?_take_of_lt hp]; exact hx) hno
    exact ⟨k1, fun y hy => by rw [hj] at hy; cases hy; exact ⟨k2, k3⟩⟩
  after := fun p x hp hx hl y hy => by
    rw [hj] at hy; cases hy
    have hc := h.closed hL hx (fun o ho => hL _ o ho hl)
    have hno : it.i ∉ x.cl := fun hm => by rw [hc _ hm] at hn; cases hn
    exact (h.at hx).un j it (by rw [List.getElem?_take_of_lt hp]; exact hj) hno

theorem Good.later {items : List DItem} {L : Nat → Bool} {tr : Tr} {f : Nat} {ρ0 : Env} {S0 : AS} (g : Good items L tr f ρ0 S0) {j : Nat} {it : DItem} (hj : items[j]? = some it) (ho : Off items L f j) {id : Nat} (hrel : it.ao.op.rel = true)
    (hid : (id ∈ (tr.hs j).ids ∧ id < (tr.S j).nx) ∨ ((tr.hs j).lo ≤ id ∧ id < (tr.hs j).hi ∧ id < (tr.S (j + 1)).nx)) : ∀ p, j < p → p < f → lis items L p = true → tr.up p id = false := by
  intro p h1 h2 hl
  obtain ⟨x, hx⟩ := g.item h2
  unfold lis at hl
  rw [hx] at hl
  have hev := g.ev p x h2 hx
  cases hu : tr.up p id with
  | false => rfl
  | true =>
    exfalso
    have hU := (ho.after p x h1 hx hl it hj).2.2 (hev.rel hu) hrel
    rcases hev.later (tr.mem_recs h1 hU) hu with ⟨k1, k2, k3⟩ | ⟨k1, k2⟩
    · rcases hid with ⟨_, h3⟩ | ⟨_, _, h3⟩
      · have := g.nx (p := j) (q := p) (by omega) (by omega); omega
      · have := g.nx (p := j + 1) (q := p) (by omega) (by omega); omega
    · rcases hid with ⟨h3, _⟩ | ⟨h3, h4, _⟩
      · exact k1 h3
      · exact k2 ⟨h3, h4⟩

/-- What an item comes to is seen by it as the one order has it. -/
theorem Good.vis {items : List DItem} {L : Nat → Bool} {tr : Tr} {f : Nat} {ρ0 : Env} {S0 : AS} (g : Good items L tr f ρ0 S0) {j id : Nat} (hj : j ≤ f)
    (hb : ∀ p x, p < j → items[p]? = some x → L x.i = false → tr.up p id = false) (ha : ∀ p, j ≤ p → p < f → lis items L p = true → tr.up p id = false) : ov (lis items L) tr.S tr.up f id = (tr.S j).h id := by
  refine ov_vis hj (fun p hp hu => ?_) (fun p hp hl => ?_) ha
  · obtain ⟨x, hx⟩ := g.item (p := p) (by omega)
    exact (g.ev p x (by omega) hx).keep hu
  · obtain ⟨x, hx⟩ := g.item (p := p) (by omega)
    refine hb p x hp hx ?_
    unfold lis at hl
    rw [hx] at hl
    exact hl

end Go.Ax

