/- Part 3 of Ax. -/
import Derived.Test.YtboclpaokecalaaAx2
set_option linter.unusedVariables false
set_option linter.unusedSimpArgs false
set_option linter.unnecessarySimpa false
/- From a law that is walked to the program's calls: inputs that lie in memory. -/
namespace Go.Ax
open Enc (enc)
variable {P : Program}

/-- Rows of memory that came in: each a block, where in it, and its cells. -/
abbrev Rows := List (Option (Nat × Nat × List Value))

def muOf (rows : Rows) : Mu := fun i => ((rows[i]?).bind id).map fun r => (r.1, r.2.1, 0)
def roOf (rows : Rows) : Nat → Option (List Value) := fun i => ((rows[i]?).bind id).map fun r => r.2.2
def inS (rows : Rows) : AS := ⟨fun i => (roOf rows i).map fun cs => .cells true cs, rows.length⟩

/-- A row is there. -/
def RowOk (w : World) (μ : Mu) (r : Option (Nat × Nat × List Value)) : Prop :=
  ∀ b d cs, r = some (b, d, cs) → ∃ c e fz, w.heap[b]? = some (.cells c e fz) ∧ LRel μ cs ((c.toList.drop d).take cs.length) ∧ (∀ x ∈ cs, x.oneCell' = true) ∧ d + cs.length ≤ c.size

theorem rows_some {rows : Rows} {i : Nat} {cs : List Value} (h : roOf rows i = some cs) : i < rows.length ∧ ∃ b d, rows[i]? = some (some (b, d, cs)) ∧ muOf rows i = some (b, d, 0) := by
  unfold roOf at h
  cases hi : rows[i]? with
  | none => rw [hi] at h; simp at h
  | some r =>
    rw [hi] at h
    simp only [Option.bind_some, id_eq, Option.map_eq_some_iff] at h
    obtain ⟨⟨b, d, cs'⟩, h1, h2⟩ := h
    simp only at h2
    subst h2; subst h1
    refine ⟨?_, b, d, rfl, by simp [muOf, hi]⟩
    rcases Nat.lt_or_ge i rows.length with h | h
    · exact h
    · rw [List.getElem?_eq_none h] at hi; cases hi

theorem rel_in {w : World} {rows : Rows} (h : ∀ r ∈ rows, RowOk w (muOf rows) r) : Rel w.heap.size (muOf rows) (inS rows) w := by
  have hblk : ∀ i cs, roOf rows i = some cs → ∃ b d, muOf rows i = some (b, d, 0) ∧ b < w.heap.size ∧ ORel w.heap.size (muOf rows) w b d 0 (.cells true cs) := by
    intro i cs hi
    obtain ⟨hlt, b, d, h1, h2⟩ := rows_some hi
    obtain ⟨c, e, fz, k1, k2, k3, k4⟩ := h _ (List.mem_of_getElem? h1) b d cs rfl
    have hb : b < w.heap.size := by
      rcases Nat.lt_or_ge b w.heap.size with h | h
      · exact h
      · rw [Array.getElem?_eq_none h] at k1; cases k1
    exact ⟨b, d, h2, hb, c, e, fz, k1, k2, k3, (fun h => by cases h), fun _ => hb, Nat.zero_le _, k4⟩
  refine ⟨fun i o hi => ?_, fun i j o o' p q hi hj hr _ _ _ => ?_, fun i p hp => ?_, Nat.le_refl _⟩
  · simp only [inS, Option.map_eq_some_iff] at hi
    obtain ⟨cs, h1, rfl⟩ := hi
    obtain ⟨b, d, h2, h3, h4⟩ := hblk i cs h1
    exact ⟨b, d, 0, h2, h4, fun h => by cases h⟩
  · simp only [inS, Option.map_eq_some_iff] at hi
    obtain ⟨cs, h1, rfl⟩ := hi
    cases hr
  · have : ∃ cs, roOf rows i = some cs ∧ True := by
      unfold muOf at hp; unfold roOf
      rw [Option.map_eq_some_iff] at hp
      obtain ⟨r, h1, _⟩ := hp
      exact ⟨r.2.2, by rw [h1]; rfl, trivial⟩
    obtain ⟨cs, h1, _⟩ := this
    obtain ⟨b, d, h2, h3, _⟩ := hblk i cs h1
    rw [h2] at hp; cases hp
    exact h3

theorem st_in (rows : Rows) : St (roOf rows) [] (inS rows) := by
  refine ⟨trivial, fun b cs hb => ?_⟩
  exact ⟨(rows_some hb).1, by simp only [inS, hb]; rfl⟩

theorem calls_of_law {G : Nat → Option AFun} {X : Nat → List Value → Option Value} (hP : P.follows .mixedOrders = true) (hG : ∀ f af, G f = some af → FunOk P f af) (hX : XOk P X) {f : Nat} {args : List Value} {rows : Rows}
    (law : Law G X f args (roOf rows)) {args' : Array Value} (w : World) (hr : ∀ r ∈ rows, RowOk w (muOf rows) r) (ha : LRel (muOf rows) args args'.toList) :
    Calls P f args' w fun e w' => e = .returned (.bool true) ∧ RowKit.Below w.heap.size w w' := by
  obtain ⟨k, hk⟩ := law [] _ (st_in rows)
  obtain ⟨_, h2⟩ := wpF_sound (B := w.heap.size) hP hG hX k f args _ _ hk
  have hrel := rel_in hr
  refine (h2 (muOf rows) w args' hrel (fun i hi => ?_) ha).mono ?_
  · unfold muOf
    rw [List.getElem?_eq_none (by exact hi)]; rfl
  · rintro e w' ⟨v, v', μ', S', rfl, rfl, hv, hr, hf⟩
    cases hv
    exact ⟨rfl, hf.below hrel⟩

/-- A row of numbers that came in. -/
theorem int_row {w : World} {k : IntKind} {a : Option Addr} {len cap : Nat} {zs : List Int}
    (h : (a = none ∧ len = 0 ∧ cap = 0 ∧ zs = []) ∨ ∃ x, a = some x ∧ len ≤ cap ∧ cap ≤ maxLen ∧ zs.length = cap ∧ (∀ i, i < zs.length → w.cell? (x.add i) = some (.int k (zs.getD i 0))) ∧ ∀ n ∈ zs, (Lit.int k n).wf = true) (i : Nat) :
    ∃ (r : Option (Nat × Nat × List Value)) (v : Value), (∀ μ, RowOk w μ r) ∧ (∀ μ : Mu, (∀ b d cs, r = some (b, d, cs) → μ i = some (b, d, 0)) → VRel μ v (.slice a len cap)) ∧ len = (zs.take len).length ∧
      (∀ R : Nat → Option (List Value), (∀ b d cs, r = some (b, d, cs) → R i = some cs) → ∀ A S, St R A S → Rd S 1 len v ((zs.take len).map (.int k))) := by
  have lrefl : ∀ (μ : Mu) (l : List Int), LRel μ (l.map (.int k)) (l.map (.int k)) := by
    intro μ l
    induction l with
    | nil => exact .nil
    | cons x l ih => exact .cons (.int _ _) ih
  rcases h with ⟨rfl, rfl, rfl, rfl⟩ | ⟨x, rfl, h1, h2, h3, h4, h5⟩
  · refine ⟨none, .slice none 0 0, ?_, fun μ _ => .snil _ _, rfl, fun R _ A S _ => ⟨rfl, none, 0, rfl, Nat.le_refl _, rfl⟩⟩
    intro μ b d cs h; cases h
  · by_cases h0 : cap = 0
    · subst h0
      have hl : len = 0 := by omega
      subst hl
      have hz : zs = [] := List.eq_nil_of_length_eq_zero h3
      subst hz
      refine ⟨none, .slice (some ⟨0, 0, none⟩) 0 0, ?_, fun μ _ => .s0 x, rfl, fun R _ A S _ => ⟨rfl, some ⟨0, 0, none⟩, 0, rfl, Nat.le_refl _, .inl rfl, .inl rfl⟩⟩
      intro μ b d cs h; cases h
    · have hpos : 0 < zs.length := by omega
      -- the block
      have hc0 := h4 0 hpos
      simp only [Addr.add, if_true] at hc0
      unfold World.cell? at hc0
      split at hc0
      · rename_i c e fz hblk
        have hsp : x.spot = none := by
          cases hs : x.spot with
          | none => rfl
          | some y => rw [hs] at hc0; simp at hc0
        have hcells : ∀ j, j < zs.length → c[x.off + j]? = some (.int k (zs.getD j 0)) := by
          intro j hj
          have := h4 j hj
          unfold World.cell? at this
          by_cases hj0 : j = 0
          · subst hj0
            simp only [Addr.add, if_true, hblk, hsp, Option.isSome_none, Bool.false_eq_true, if_false] at this
            exact this
          · simp only [Addr.add, if_neg hj0, hblk, Option.isSome_none, Bool.false_eq_true, if_false] at this
            exact this
        have hsize : x.off + zs.length ≤ c.size := by
          have := hcells (zs.length - 1) (by omega)
          rcases Nat.lt_or_ge (x.off + (zs.length - 1)) c.size with h | h
          · omega
          · rw [Array.getElem?_eq_none h] at this; cases this
        have hcut : (c.toList.drop x.off).take zs.length = zs.map (.int k) := by
          refine List.ext_getElem? fun j => ?_
          rw [List.getElem?_take]
          split
          · rename_i hj
            rw [List.getElem?_drop, Array.getElem?_toList, hcells j hj, List.getElem?_map, List.getD_eq_getElem?_getD, List.getElem?_eq_getElem hj]
            rfl
          · rename_i hj
            rw [List.getElem?_eq_none (by simp; omega)]
        refine ⟨some (x.block, x.off, zs.map (.int k)), .slice (some ⟨i, 0, none⟩) len cap, fun μ b d cs h => ?_, fun μ hμ => ?_, by simp; omega, fun R hR A S H => ?_⟩
        · cases h
          refine ⟨c, e, fz, hblk, ?_, fun y hy => ?_, by simpa using hsize⟩
          · rw [List.length_map, hcut]; exact lrefl μ zs
          · obtain ⟨n, _, rfl⟩ := List.mem_map.1 hy; rfl
        · have : some x = some (⟨x.block, 0 + x.off, none⟩ : Addr) := by
            obtain ⟨b, o, s⟩ := x
            simp only at hsp
            subst hsp
            simp
          rw [this]
          exact .slice (hμ _ _ _ rfl)
        · obtain ⟨k1, k2⟩ := H.ro i _ (hR _ _ _ rfl)
          refine ⟨by simp; omega, some ⟨i, 0, none⟩, cap, rfl, h1, .inl rfl, .inr ⟨true, _, k1, k2, by simp; omega, ?_⟩⟩
          simp [List.map_take]
      · cases hc0

/-- Numbers of any kind. -/
theorem rin_int {R : Nat → Option (List Value)} {v : Value} {l : List Int} (h : ∀ A S, St R A S → Rd S 1 l.length v (l.map (.int .i64))) : RIn R v l := by
  intro A S H
  have := h A S H
  have e : l.map (Value.int .i64) = encs l := by
    clear this h
    induction l with
    | nil => rfl
    | cons x l ih => rw [encs_cons, List.map_cons, ih]; rfl
  rw [e] at this
  exact this

end Go.Ax

