/- The law RefineErrors holds for every input: in which order nil coders, options, bitmaps and contexts are refused. No condition. -/
import Derived.Test.YtbfefpkhalegmaaF7
import Derived.Test.YtbfefpkhalegmaaF6
import Derived.Test.YtbfefpkhalegmaaRows
import Derived.WalkKit
import Derived.ProofKit
import Derived.ShutString

set_option linter.unusedVariables false
set_option linter.unusedSimpArgs false
namespace Go.Proofs.Ytbfefpkhalegmaa
open Go Go.RowKit Go.ChangeShapes Go.WideShapes Go.ChangeAt
namespace RefineErrorsDone

theorem own : ownKnob Try.prog.godebug = none := by kernel_rfl
theorem laidOut : laidOutB Try.prog = true := by kernel_rfl

theorem walk (t0 dx0 dy0 : Int) (ty0 : Bool) (kd0 : Int) (hr0 : I64 t0 ∧ I64 dx0 ∧ I64 dy0 ∧ I64 kd0) (w1 v1 : Int) (hb1 : I64 w1 ∧ I64 v1) (a1 : Option Addr) (len1 cap1 : Nat) (zs1 : List Int) (w2 v2 : Int) (hb2 : I64 w2 ∧ I64 v2) (a2 : Option Addr) (len2 cap2 : Nat) (zs2 : List Int) (k3 : Int) (hk3 : -9223372036854775808 ≤ k3 ∧ k3 ≤ 9223372036854775807) (k4 : Int) (hk4 : -9223372036854775808 ≤ k4 ∧ k4 ≤ 9223372036854775807) (W : World) (ww1 : IsRow .u8 W a1 len1 cap1 zs1) (ww2 : IsRow .u8 W a2 len2 cap2 zs2) :
    Calls Try.prog 10 #[.agg #[.int .i64 t0, .int .i64 dx0, .int .i64 dy0, .bool ty0, .int .i64 kd0], .agg #[.int .i64 w1, .int .i64 v1, .slice a1 len1 cap1], .agg #[.int .i64 w2, .int .i64 v2, .slice a2 len2 cap2], .int .i64 k3, .int .i64 k4] W fun e w' => e = .returned (.bool true) ∧ Below W.heap.size W w' := by
  obtain ⟨x1, hx1, he1, hl1, hm1, hw1, hc1, hv1⟩ := row_ints ww1 5
  unfold maxLen at hm1
  have hby1 : ByOk (zs1.take len1) := fun n hn => wf_u8 (hw1 n hn)
  obtain ⟨x2, hx2, he2, hl2, hm2, hw2, hc2, hv2⟩ := row_ints ww2 5
  unfold maxLen at hm2
  have hby2 : ByOk (zs2.take len2) := fun n hn => wf_u8 (hw2 n hn)
  have hL : roL [x1, x2] = [.ro (ints .u8 (zs1.take len1)) 5, .ro (ints .u8 (zs2.take len2)) 5] := by simp [roL, hx1, he1, hx2, he2]
  have c := c_RefineErrors t0 dx0 dy0 hr0.2.1 hr0.2.2.1 ty0 kd0 w1 v1 w2 v2 (zs1.take len1) (zs2.take len2) (by unfold big; omega) (by unfold big; omega) hby1 hby2 k3 k4 hk3
  change LCall Try.prog 10 _ [.ro (ints .u8 (zs1.take len1)) 5, .ro (ints .u8 (zs2.take len2)) 5] (fun r L => r = .bool true ∧ L = [.ro (ints .u8 (zs1.take len1)) 5, .ro (ints .u8 (zs2.take len2)) 5]) at c
  rw [← hL] at c
  have hs : Sim Try.prog (roP [x1, x2]) (lh (roL [x1, x2])) W := by
    refine sim_ro fun x hx => ?_
    simp only [List.mem_cons, List.not_mem_nil, or_false] at hx
    rcases hx with rfl | rfl
    · exact hc1 _ _
    · exact hc2 _ _
  refine calls_law (vargs := [.agg #[.int .i64 t0, .int .i64 dx0, .int .i64 dy0, .bool ty0, .int .i64 kd0], .agg #[.int .i64 w1, .int .i64 v1, .slice a1 len1 cap1], .agg #[.int .i64 w2, .int .i64 v2, .slice a2 len2 cap2], .int .i64 k3, .int .i64 k4]) c hs ?_
  have b1 : born (lh (roL [x1, x2])) 0 := by rw [hL]; trivial
  have r1 := hv1 (born (lh (roL [x1, x2]))) (roP [x1, x2]) 0 b1 rfl
  have b2 : born (lh (roL [x1, x2])) 1 := by rw [hL]; trivial
  have r2 := hv2 (born (lh (roL [x1, x2]))) (roP [x1, x2]) 1 b2 rfl
  simp only [hl1, hl2]
  exact (.cons _ _ _ _ (.agg _ _ (.cons _ _ _ _ (.int _ _) (.cons _ _ _ _ (.int _ _) (.cons _ _ _ _ (.int _ _) (.cons _ _ _ _ (.bool _) (.cons _ _ _ _ (.int _ _) .nil)))))) (.cons _ _ _ _ (.agg _ _ (.cons _ _ _ _ (.int _ _) (.cons _ _ _ _ (.int _ _) (.cons _ _ _ _ r1 .nil)))) (.cons _ _ _ _ (.agg _ _ (.cons _ _ _ _ (.int _ _) (.cons _ _ _ _ (.int _ _) (.cons _ _ _ _ r2 .nil)))) (.cons _ _ _ _ (.int _ _) (.cons _ _ _ _ (.int _ _) .nil)))))

set_option maxRecDepth 100000 in
theorem lifted (os : Os) (started : os.Started) (H : Type) (enc : TypeId × Value → H) :
    ReturnsInHanded {} Try.checked os 10 .any (Rows.refineErrorsSpec.pre6 enc Try.prog Try.f10 Rows.refineErrorsRow.domain false) (Rows.refineErrorsSpec.post enc Try.prog Try.f10 false true false false) := by
  refine returnsInHanded_of_change (C := Try.checked) own started (by kernel_rfl) Try.func10
    (ChangeSpec.witness6 (enc := enc) (C := Try.checked) false ⟨#[], #[.agg #[.int .i64 0, .int .i64 0, .int .i64 0, .bool false, .int .i64 0], .agg #[.int .i64 0, .int .i64 0, .slice none 0 0], .agg #[.int .i64 0, .int .i64 0, .slice none 0 0], .int .i64 0, .int .i64 0], []⟩ 8 (by kernel_rfl) (by kernel_rfl) (by kernel_rfl) (by kernel_rfl)) ?_
  intro W base args ds gs before hval0 hW hcnd _
  have hval : ∀ (j : Nat) t v, Try.f10.params[j]? = some t → args[j]? = some v → Value.okWide Try.prog W .any base t v := hval0
  have hW' := hW
  obtain ⟨p, q, hA0, hV, rfl, hfz, hnd⟩ := hW
  have hA : DataW.TrodAll enc Try.prog W 0 (fun _ => true) true Try.f10.params.toList args.toList ds p := hA0
  rw [Try.params10] at hA hval
  obtain ⟨v0, vs0, d0, ds0, p0, q0, hargs, rfl, rfl, h0, r0⟩ := trodAll_cons hA
  obtain ⟨v1, vs1, d1, ds1, p1, q1, rfl, rfl, rfl, h1, r1⟩ := trodAll_cons r0
  obtain ⟨v2, vs2, d2, ds2, p2, q2, rfl, rfl, rfl, h2, r2⟩ := trodAll_cons r1
  obtain ⟨v3, vs3, d3, ds3, p3, q3, rfl, rfl, rfl, h3, r3⟩ := trodAll_cons r2
  obtain ⟨v4, vs4, d4, ds4, p4, q4, rfl, rfl, rfl, h4, r4⟩ := trodAll_cons r3
  obtain ⟨rfl, rfl, rfl⟩ := trodAll_nil r4
  obtain rfl : args = #[v0, v1, v2, v3, v4] := by cases args; simp_all
  obtain ⟨rfl, rfl⟩ := trodVars_none hV
  have kk0 := h0
  have lt0 : ∀ x ∈ p0, x.block < W.heap.size := by obtain ⟨m, hm⟩ := kk0; exact DataW.trod_lt m _ _ _ hm
  have kk1 := h1
  have lt1 : ∀ x ∈ p1, x.block < W.heap.size := by obtain ⟨m, hm⟩ := kk1; exact DataW.trod_lt m _ _ _ hm
  have kk2 := h2
  have lt2 : ∀ x ∈ p2, x.block < W.heap.size := by obtain ⟨m, hm⟩ := kk2; exact DataW.trod_lt m _ _ _ hm
  obtain ⟨t0, dx0, dy0, ty0, kd0, rfl, hr0⟩ := row_refine (hval 0 43 v0 rfl rfl) h0
  obtain ⟨w1, v1', a1, len1, cap1, zs1, rfl, ww1, hb1⟩ := row_bitmap (hval 1 48 v1 rfl rfl) h1
  obtain ⟨w2, v2', a2, len2, cap2, zs2, rfl, ww2, hb2⟩ := row_bitmap (hval 2 48 v2 rfl rfl) h2
  obtain ⟨k3, rfl, rfl, rfl, wf3⟩ := open_int Try.underlying3 (hval 3 3 v3 rfl rfl) h3
  obtain ⟨k4, rfl, rfl, rfl, wf4⟩ := open_int Try.underlying3 (hval 4 3 v4 rfl rfl) h4
  clear hA0 hval0
  refine (walk t0 dx0 dy0 ty0 kd0 hr0 w1 v1' hb1 a1 len1 cap1 zs1 w2 v2' hb2 a2 len2 cap2 zs2 k3 (wf_i64 wf3) k4 (wf_i64 wf4) W ww1 ww2).mono fun e W' ⟨he, bel⟩ => ?_
  subst he
  exact ⟨_, rfl, _, _, _, [], _, [], hW', trodAll_mk1 (shut_bool Try.underlying4 _),
    (trodAll_cons_mk (Below.trod laidOut (by kernel_rfl) (of_decide_eq_true (by kernel_rfl)) kk0 bel lt0) (trodAll_cons_mk (Below.trod laidOut (by kernel_rfl) (of_decide_eq_true (by kernel_rfl)) kk1 bel lt1) (trodAll_cons_mk (Below.trod laidOut (by kernel_rfl) (of_decide_eq_true (by kernel_rfl)) kk2 bel lt2) (trodAll_cons_mk (shut_int Try.underlying3 wf3) (trodAll_cons_mk (shut_int Try.underlying3 wf4) trodAll_mk0))))), rfl, bel.frame _, fun h => by cases h⟩

theorem over : Rows.refineErrorsRow.holds Try.pinned (OpenSpec.ofChange Rows.refineErrorsSpec) :=
  OpenClaim.holds_of_wide 10 Try.f10 rfl rfl rfl rfl rfl rfl rfl ⟨rfl, rfl, rfl, rfl, rfl⟩ rfl rfl rfl rfl rfl (by kernel_rfl) Try.func10 (by kernel_rfl)
    (of_decide_eq_true (by kernel_rfl)) (by unfold Func.isWrapper; first | (rw [if_pos (by decide +kernel)]; kernel_rfl) | (rw [if_neg (by decide +kernel)]; exact ⟨rfl, rfl⟩))
    (fun os started H enc _ => lifted os started H enc)
end RefineErrorsDone
theorem refineErrors_holds : Rows.RefineErrorsSaid := RefineErrorsDone.over
#print axioms refineErrors_holds
end Go.Proofs.Ytbfefpkhalegmaa
