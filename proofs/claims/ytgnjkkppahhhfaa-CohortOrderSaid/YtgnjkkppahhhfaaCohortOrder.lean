/-
  'Rows.CohortOrderSaid': pinfoldlaw14.CohortOrder returns true at every slice of operations, and it reads as it did. No conditions.
-/
import Derived.Test.YtgnjkkppahhhfaaRows
import Derived.Test.YtgnjkkppahhhfaaOrder4
import Derived.WalkKit
import Derived.ProofKit
import Derived.OpenShut
import Derived.ShutString
import Derived.ChangeOld
import Derived.Below
namespace Go.Proofs.Ytgnjkkppahhhfaa.cohortOrder
open Go.ChangeShapes Go.WideShapes Go.ChangeAt Go.RowKit
open Go.ChangeMaps (open_string shut_string)
set_option linter.unusedVariables false

theorem own : ownKnob Try.prog.godebug = none := by kernel_rfl
theorem laidOut : laidOutB Try.prog = true := by kernel_rfl

theorem walk (a0 : Option Addr) (len0 cap0 : Nat) (z0 : List (List Value)) (w : World) (w0 : Ax.FlatRow op_ks w a0 len0 cap0 z0) :
    Calls Try.prog 3 #[.slice a0 len0 cap0] w fun e w' => e = .returned (.bool true) ∧ Below w.heap.size w w' := by
  obtain ⟨r0, v0, k01, k02, k03, k04, k05⟩ := Ax.flat_row (by decide) w0 0
  obtain ⟨l0, e0, q0⟩ := Ax.things fit_op (z0.take len0) (fun x hx => k04 x (List.mem_of_mem_take hx))
  have in0 : ∀ R, (∀ b d cs, r0 = some (b, d, cs) → R 0 = some cs) → Ax.RIn R v0 l0 := fun R h => Ax.rin_enc k03 e0 fun A S H => k05 R h A S H
  have in0 := in0 (Ax.roOf [r0]) (fun b d cs h => by subst h; rfl)
  refine Ax.calls_of_law (G := G) (X := XL) (rows := [r0]) (by kernel_rfl) G_ok XL_ok (cohortOrder_law in0 q0) w (fun r hr => ?_) (.cons (k02 _ ?_) .nil)
  · simp only [List.mem_cons, List.not_mem_nil, or_false] at hr
    subst hr
    exact k01 _
  · intro b d cs h
    subst h; rfl

set_option maxRecDepth 100000 in
theorem lifted (os : Os) (started : os.Started) (H : Type) (enc : TypeId × Value → H) :
    ReturnsInHanded {} Try.checked os 3 .any (Rows.cohortOrderSpec.pre6 enc Try.prog Try.f3 Rows.cohortOrderRow.domain false) (Rows.cohortOrderSpec.post enc Try.prog Try.f3 false true false false) := by
  refine returnsInHanded_of_change (C := Try.checked) own started (by kernel_rfl) Try.func3
    (ChangeSpec.witness6 (enc := enc) (C := Try.checked) false ⟨#[], #[.slice none 0 0], []⟩ 8 (by kernel_rfl) (by kernel_rfl) (by kernel_rfl) (by kernel_rfl)) ?_
  intro W base args ds gs before hval0 hW hcnd _
  have hval : ∀ (j : Nat) t v, Try.f3.params[j]? = some t → args[j]? = some v → Value.okWide Try.prog W .any base t v := hval0
  have hW' := hW
  obtain ⟨p, q, hA0, hV, rfl, hfz, hnd⟩ := hW
  have hA : DataW.TrodAll enc Try.prog W 0 (fun _ => true) true Try.f3.params.toList args.toList ds p := hA0
  rw [Try.params3] at hA hval
  obtain ⟨v0, vs0, d0, ds0, p0, q0, hargs, rfl, rfl, h0, s0⟩ := trodAll_cons hA
  obtain ⟨rfl, rfl, rfl⟩ := trodAll_nil s0
  obtain rfl : args = #[v0] := by cases args; simp_all
  obtain ⟨rfl, rfl⟩ := trodVars_none hV
  obtain ⟨a0, len0, cap0, rfl⟩ := okWide_slice Try.underlying22 (hval 0 22 v0 rfl rfl)
  have k0 := h0
  have lt0 : ∀ x ∈ p0, x.block < W.heap.size := by obtain ⟨m, hm⟩ := k0; exact DataW.trod_lt m _ _ _ hm
  obtain ⟨z0, w0⟩ := Ax.open_flat (n := 8) (ks := op_ks) Try.underlying22 (by kernel_rfl) (by kernel_rfl) h0
  clear hA0 hval0
  refine (walk a0 len0 cap0 z0 W w0).mono fun e W' ⟨he, bel⟩ => ?_
  subst he
  exact ⟨_, rfl, _, _, _, [], _, [], hW', trodAll_mk1 (shut_bool Try.underlying4 _), (trodAll_cons_mk (Below.trod laidOut (by kernel_rfl) (of_decide_eq_true (by kernel_rfl)) k0 bel lt0) trodAll_mk0), rfl, bel.frame _, fun h => by cases h⟩

theorem over : Rows.cohortOrderRow.holds Try.pinned (OpenSpec.ofChange Rows.cohortOrderSpec) :=
  OpenClaim.holds_of_wide 3 Try.f3 rfl rfl rfl rfl rfl rfl rfl ⟨rfl, rfl, rfl, rfl, rfl⟩ rfl rfl rfl rfl rfl (by kernel_rfl) Try.func3 (by kernel_rfl)
    (of_decide_eq_true (by kernel_rfl)) (by unfold Func.isWrapper; first | (rw [if_pos (by decide +kernel)]; kernel_rfl) | (rw [if_neg (by decide +kernel)]; exact ⟨rfl, rfl⟩))
    (fun os started H enc _ => lifted os started H enc)

theorem proved : Rows.CohortOrderSaid := over
#print axioms proved
end Go.Proofs.Ytgnjkkppahhhfaa.cohortOrder
