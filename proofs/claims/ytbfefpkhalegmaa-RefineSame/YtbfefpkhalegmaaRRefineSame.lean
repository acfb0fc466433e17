/- The law RefineSame holds for every input: how many bits a bitmap needs that is its own reference. No condition. -/
import Derived.Test.YtbfefpkhalegmaaF8
import Derived.Test.YtbfefpkhalegmaaF6
import Derived.Test.YtbfefpkhalegmaaRows
import Derived.WalkKit
import Derived.ProofKit
import Derived.ShutString

set_option linter.unusedVariables false
set_option linter.unusedSimpArgs false
namespace Go.Proofs.Ytbfefpkhalegmaa
open Go Go.RowKit Go.ChangeShapes Go.WideShapes Go.ChangeAt
namespace RefineSameDone

theorem own : ownKnob Try.prog.godebug = none := by kernel_rfl
theorem laidOut : laidOutB Try.prog = true := by kernel_rfl

theorem walk (w0 v0 : Int) (hb0 : I64 w0 ∧ I64 v0) (a0 : Option Addr) (len0 cap0 : Nat) (zs0 : List Int) (k1 : Int) (hk1 : -9223372036854775808 ≤ k1 ∧ k1 ≤ 9223372036854775807) (k2 : Int) (hk2 : -9223372036854775808 ≤ k2 ∧ k2 ≤ 9223372036854775807) (W : World) (ww0 : IsRow .u8 W a0 len0 cap0 zs0) :
    Calls Try.prog 13 #[.agg #[.int .i64 w0, .int .i64 v0, .slice a0 len0 cap0], .int .i64 k1, .int .i64 k2] W fun e w' => e = .returned (.bool true) ∧ Below W.heap.size W w' := by
  obtain ⟨x0, hx0, he0, hl0, hm0, hw0, hc0, hv0⟩ := row_ints ww0 5
  unfold maxLen at hm0
  have hby0 : ByOk (zs0.take len0) := fun n hn => wf_u8 (hw0 n hn)
  have hL : roL [x0] = [.ro (ints .u8 (zs0.take len0)) 5] := by simp [roL, hx0, he0]
  have c := c_RefineSame k1 k2 w0 v0 (zs0.take len0) (by unfold big; omega) hby0
  change LCall Try.prog 13 _ [.ro (ints .u8 (zs0.take len0)) 5] (fun r L => r = .bool true ∧ L = [.ro (ints .u8 (zs0.take len0)) 5]) at c
  rw [← hL] at c
  have hs : Sim Try.prog (roP [x0]) (lh (roL [x0])) W := by
    refine sim_ro fun x hx => ?_
    simp only [List.mem_cons, List.not_mem_nil, or_false] at hx
    rcases hx with rfl
    exact hc0 _ _
  refine calls_law (vargs := [.agg #[.int .i64 w0, .int .i64 v0, .slice a0 len0 cap0], .int .i64 k1, .int .i64 k2]) c hs ?_
  have b0 : born (lh (roL [x0])) 0 := by rw [hL]; trivial
  have r0 := hv0 (born (lh (roL [x0]))) (roP [x0]) 0 b0 rfl
  simp only [hl0]
  exact (.cons _ _ _ _ (.agg _ _ (.cons _ _ _ _ (.int _ _) (.cons _ _ _ _ (.int _ _) (.cons _ _ _ _ r0 .nil)))) (.cons _ _ _ _ (.int _ _) (.cons _ _ _ _ (.int _ _) .nil)))

set_option maxRecDepth 100000 in
theorem lifted (os : Os) (started : os.Started) (H : Type) (enc : TypeId × Value → H) :
    ReturnsInHanded {} Try.checked os 13 .any (Rows.refineSameSpec.pre6 enc Try.prog Try.f13 Rows.refineSameRow.domain false) (Rows.refineSameSpec.post enc Try.prog Try.f13 false true false false) := by
  refine returnsInHanded_of_change (C := Try.checked) own started (by kernel_rfl) Try.func13
    (ChangeSpec.witness6 (enc := enc) (C := Try.checked) false ⟨#[], #[.agg #[.int .i64 0, .int .i64 0, .slice none 0 0], .int .i64 0, .int .i64 0], []⟩ 8 (by kernel_rfl) (by kernel_rfl) (by kernel_rfl) (by kernel_rfl)) ?_
  intro W base args ds gs before hval0 hW hcnd _
  have hval : ∀ (j : Nat) t v, Try.f13.params[j]? = some t → args[j]? = some v → Value.okWide Try.prog W .any base t v := hval0
  have hW' := hW
  obtain ⟨p, q, hA0, hV, rfl, hfz, hnd⟩ := hW
  have hA : DataW.TrodAll enc Try.prog W 0 (fun _ => true) true Try.f13.params.toList args.toList ds p := hA0
  rw [Try.params13] at hA hval
  obtain ⟨v0, vs0, d0, ds0, p0, q0, hargs, rfl, rfl, h0, r0⟩ := trodAll_cons hA
  obtain ⟨v1, vs1, d1, ds1, p1, q1, rfl, rfl, rfl, h1, r1⟩ := trodAll_cons r0
  obtain ⟨v2, vs2, d2, ds2, p2, q2, rfl, rfl, rfl, h2, r2⟩ := trodAll_cons r1
  obtain ⟨rfl, rfl, rfl⟩ := trodAll_nil r2
  obtain rfl : args = #[v0, v1, v2] := by cases args; simp_all
  obtain ⟨rfl, rfl⟩ := trodVars_none hV
  have kk0 := h0
  have lt0 : ∀ x ∈ p0, x.block < W.heap.size := by obtain ⟨m, hm⟩ := kk0; exact DataW.trod_lt m _ _ _ hm
  obtain ⟨w0, v0', a0, len0, cap0, zs0, rfl, ww0, hb0⟩ := row_bitmap (hval 0 48 v0 rfl rfl) h0
  obtain ⟨k1, rfl, rfl, rfl, wf1⟩ := open_int Try.underlying3 (hval 1 3 v1 rfl rfl) h1
  obtain ⟨k2, rfl, rfl, rfl, wf2⟩ := open_int Try.underlying3 (hval 2 3 v2 rfl rfl) h2
  clear hA0 hval0
  refine (walk w0 v0' hb0 a0 len0 cap0 zs0 k1 (wf_i64 wf1) k2 (wf_i64 wf2) W ww0).mono fun e W' ⟨he, bel⟩ => ?_
  subst he
  exact ⟨_, rfl, _, _, _, [], _, [], hW', trodAll_mk1 (shut_bool Try.underlying4 _),
    (trodAll_cons_mk (Below.trod laidOut (by kernel_rfl) (of_decide_eq_true (by kernel_rfl)) kk0 bel lt0) (trodAll_cons_mk (shut_int Try.underlying3 wf1) (trodAll_cons_mk (shut_int Try.underlying3 wf2) trodAll_mk0))), rfl, bel.frame _, fun h => by cases h⟩

theorem over : Rows.refineSameRow.holds Try.pinned (OpenSpec.ofChange Rows.refineSameSpec) :=
  OpenClaim.holds_of_wide 13 Try.f13 rfl rfl rfl rfl rfl rfl rfl ⟨rfl, rfl, rfl, rfl, rfl⟩ rfl rfl rfl rfl rfl (by kernel_rfl) Try.func13 (by kernel_rfl)
    (of_decide_eq_true (by kernel_rfl)) (by unfold Func.isWrapper; first | (rw [if_pos (by decide +kernel)]; kernel_rfl) | (rw [if_neg (by decide +kernel)]; exact ⟨rfl, rfl⟩))
    (fun os started H enc _ => lifted os started H enc)
end RefineSameDone
theorem refineSame_holds : Rows.RefineSameSaid := RefineSameDone.over
#print axioms refineSame_holds
end Go.Proofs.Ytbfefpkhalegmaa
