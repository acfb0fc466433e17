/- The law RefineOptions holds for every input: which options are valid, and how many contexts they take. No condition. -/
import Derived.Test.YtbfefpkhalegmaaF6
import Derived.Test.YtbfefpkhalegmaaRows
import Derived.WalkKit
import Derived.ProofKit
import Derived.ShutString

set_option linter.unusedVariables false
set_option linter.unusedSimpArgs false
namespace Go.Proofs.Ytbfefpkhalegmaa
open Go Go.RowKit Go.ChangeShapes Go.WideShapes Go.ChangeAt
namespace RefineOptionsDone

theorem own : ownKnob Try.prog.godebug = none := by kernel_rfl
theorem laidOut : laidOutB Try.prog = true := by kernel_rfl

theorem walk (t0 dx0 dy0 : Int) (ty0 : Bool) (kd0 : Int) (hr0 : I64 t0 ∧ I64 dx0 ∧ I64 dy0 ∧ I64 kd0) (W : World)  :
    Calls Try.prog 5 #[.agg #[.int .i64 t0, .int .i64 dx0, .int .i64 dy0, .bool ty0, .int .i64 kd0]] W fun e w' => e = .returned (.bool true) ∧ Below W.heap.size W w' := by
  have hL : roL [] = [] := by simp [roL]
  have c := c_RefineOptions t0 dx0 dy0 hr0.2.1 hr0.2.2.1 ty0 kd0
  have hs : Sim Try.prog (roP []) (lh (roL [])) W := sim_ro fun x hx => by cases hx
  refine calls_law (vargs := [.agg #[.int .i64 t0, .int .i64 dx0, .int .i64 dy0, .bool ty0, .int .i64 kd0]]) c hs ?_
  exact (.cons _ _ _ _ (.agg _ _ (.cons _ _ _ _ (.int _ _) (.cons _ _ _ _ (.int _ _) (.cons _ _ _ _ (.int _ _) (.cons _ _ _ _ (.bool _) (.cons _ _ _ _ (.int _ _) .nil)))))) .nil)

set_option maxRecDepth 100000 in
theorem lifted (os : Os) (started : os.Started) (H : Type) (enc : TypeId × Value → H) :
    ReturnsInHanded {} Try.checked os 5 .any (Rows.refineOptionsSpec.pre6 enc Try.prog Try.f5 Rows.refineOptionsRow.domain false) (Rows.refineOptionsSpec.post enc Try.prog Try.f5 false true false false) := by
  refine returnsInHanded_of_change (C := Try.checked) own started (by kernel_rfl) Try.func5
    (ChangeSpec.witness6 (enc := enc) (C := Try.checked) false ⟨#[], #[.agg #[.int .i64 0, .int .i64 0, .int .i64 0, .bool false, .int .i64 0]], []⟩ 8 (by kernel_rfl) (by kernel_rfl) (by kernel_rfl) (by kernel_rfl)) ?_
  intro W base args ds gs before hval0 hW hcnd _
  have hval : ∀ (j : Nat) t v, Try.f5.params[j]? = some t → args[j]? = some v → Value.okWide Try.prog W .any base t v := hval0
  have hW' := hW
  obtain ⟨p, q, hA0, hV, rfl, hfz, hnd⟩ := hW
  have hA : DataW.TrodAll enc Try.prog W 0 (fun _ => true) true Try.f5.params.toList args.toList ds p := hA0
  rw [Try.params5] at hA hval
  obtain ⟨v0, vs0, d0, ds0, p0, q0, hargs, rfl, rfl, h0, r0⟩ := trodAll_cons hA
  obtain ⟨rfl, rfl, rfl⟩ := trodAll_nil r0
  obtain rfl : args = #[v0] := by cases args; simp_all
  obtain ⟨rfl, rfl⟩ := trodVars_none hV
  have kk0 := h0
  have lt0 : ∀ x ∈ p0, x.block < W.heap.size := by obtain ⟨m, hm⟩ := kk0; exact DataW.trod_lt m _ _ _ hm
  obtain ⟨t0, dx0, dy0, ty0, kd0, rfl, hr0⟩ := row_refine (hval 0 43 v0 rfl rfl) h0
  clear hA0 hval0
  refine (walk t0 dx0 dy0 ty0 kd0 hr0 W ).mono fun e W' ⟨he, bel⟩ => ?_
  subst he
  exact ⟨_, rfl, _, _, _, [], _, [], hW', trodAll_mk1 (shut_bool Try.underlying4 _),
    (trodAll_cons_mk (Below.trod laidOut (by kernel_rfl) (of_decide_eq_true (by kernel_rfl)) kk0 bel lt0) trodAll_mk0), rfl, bel.frame _, fun h => by cases h⟩

theorem over : Rows.refineOptionsRow.holds Try.pinned (OpenSpec.ofChange Rows.refineOptionsSpec) :=
  OpenClaim.holds_of_wide 5 Try.f5 rfl rfl rfl rfl rfl rfl rfl ⟨rfl, rfl, rfl, rfl, rfl⟩ rfl rfl rfl rfl rfl (by kernel_rfl) Try.func5 (by kernel_rfl)
    (of_decide_eq_true (by kernel_rfl)) (by unfold Func.isWrapper; first | (rw [if_pos (by decide +kernel)]; kernel_rfl) | (rw [if_neg (by decide +kernel)]; exact ⟨rfl, rfl⟩))
    (fun os started H enc _ => lifted os started H enc)
end RefineOptionsDone
theorem refineOptions_holds : Rows.RefineOptionsSaid := RefineOptionsDone.over
#print axioms refineOptions_holds
end Go.Proofs.Ytbfefpkhalegmaa
