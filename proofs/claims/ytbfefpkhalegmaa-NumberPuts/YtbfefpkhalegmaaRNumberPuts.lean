/- The law NumberPuts holds for every input: numbers and ids put one behind the other come back from one code. No condition. -/
import Derived.Test.YtbfefpkhalegmaaN9
import Derived.Test.YtbfefpkhalegmaaRows
import Derived.WalkKit
import Derived.ProofKit
import Derived.ShutString

set_option linter.unusedVariables false
set_option linter.unusedSimpArgs false
namespace Go.Proofs.Ytbfefpkhalegmaa
open Go Go.RowKit Go.ChangeShapes Go.WideShapes Go.ChangeAt
namespace NumberPutsDone

theorem own : ownKnob Try.prog.godebug = none := by kernel_rfl
theorem laidOut : laidOutB Try.prog = true := by kernel_rfl

theorem walk (k0 k1 : Int) (W : World) (l : List Deed) (y : RoArg) (a2 : Option Addr) (cap2 : Nat) (hy : y.cs = deedF l) (hye : y.e = 87) (hl : l.length ≤ maxLen) (hb : ∀ d ∈ l, I6 d.1) (hyc : ∀ B ρ, CRel B ρ y.cs (fun j => W.cell? ⟨y.blk, y.base + j, none⟩))
    (hyv : ∀ (B : Nat → Prop) (ρ : Nat → Pl) (i : Nat), B i → ρ i = ⟨y.blk, y.base, false, 0, 0⟩ → VRel B ρ (.slice i 0 l.length) (.slice a2 l.length cap2)) :
    Calls Try.prog 11 #[.int .i64 k0, .int .i64 k1, .slice a2 l.length cap2] W fun e w' => e = .returned (.bool true) ∧ Below W.heap.size W w' := by
  unfold maxLen at hl
  have hL : roL [y] = [.ro (deedF l) 87] := by simp [roL, hy, hye]
  have c := c_NumberPuts k0 k1 l (by omega) hb
  rw [← hL] at c
  have hs : Sim Try.prog (roP [y]) (lh (roL [y])) W := by
    refine sim_ro fun x hx => ?_
    simp only [List.mem_cons, List.not_mem_nil, or_false] at hx
    subst hx
    exact hyc _ _
  refine calls_law (vargs := [.int .i64 k0, .int .i64 k1, .slice a2 l.length cap2]) c hs ?_
  have r := hyv (born (lh (roL [y]))) (roP [y]) 0 (by rw [hL]; trivial) rfl
  exact .cons _ _ _ _ (.int _ _) (.cons _ _ _ _ (.int _ _) (.cons _ _ _ _ r .nil))

set_option maxRecDepth 100000 in
theorem lifted (os : Os) (started : os.Started) (H : Type) (enc : TypeId × Value → H) :
    ReturnsInHanded {} Try.checked os 11 .any (Rows.numberPutsSpec.pre6 enc Try.prog Try.f11 Rows.numberPutsRow.domain false) (Rows.numberPutsSpec.post enc Try.prog Try.f11 false true false false) := by
  refine returnsInHanded_of_change (C := Try.checked) own started (by kernel_rfl) Try.func11
    (ChangeSpec.witness6 (enc := enc) (C := Try.checked) false ⟨#[], #[.int .i64 0, .int .i64 0, .slice none 0 0], []⟩ 8 (by kernel_rfl) (by kernel_rfl) (by kernel_rfl) (by kernel_rfl)) ?_
  intro W base args ds gs before hval0 hW hcnd _
  have hval : ∀ (j : Nat) t v, Try.f11.params[j]? = some t → args[j]? = some v → Value.okWide Try.prog W .any base t v := hval0
  have hW' := hW
  obtain ⟨p, q, hA0, hV, rfl, hfz, hnd⟩ := hW
  have hA : DataW.TrodAll enc Try.prog W 0 (fun _ => true) true Try.f11.params.toList args.toList ds p := hA0
  rw [Try.params11] at hA hval
  obtain ⟨v0, vs0, d0, ds0, p0, q0, hargs, rfl, rfl, h0, r0⟩ := trodAll_cons hA
  obtain ⟨v1, vs1, d1, ds1, p1, q1, rfl, rfl, rfl, h1, r1⟩ := trodAll_cons r0
  obtain ⟨v2, vs2, d2, ds2, p2, q2, rfl, rfl, rfl, h2, r2⟩ := trodAll_cons r1
  obtain ⟨rfl, rfl, rfl⟩ := trodAll_nil r2
  obtain rfl : args = #[v0, v1, v2] := by cases args; simp_all
  obtain ⟨rfl, rfl⟩ := trodVars_none hV
  have kk2 := h2
  have lt2 : ∀ x ∈ p2, x.block < W.heap.size := by obtain ⟨m, hm⟩ := kk2; exact DataW.trod_lt m _ _ _ hm
  obtain ⟨k0, rfl, rfl, rfl, wf0⟩ := open_int Try.underlying3 (hval 0 3 v0 rfl rfl) h0
  obtain ⟨k1, rfl, rfl, rfl, wf1⟩ := open_int Try.underlying3 (hval 1 3 v1 rfl rfl) h1
  obtain ⟨y, l, a2, cap2, rfl, hy, hye, hbl, hbd, hyc, hyv⟩ : ∃ (y : RoArg) (l : List Deed) (a : Option Addr) (cap : Nat), v2 = .slice a l.length cap ∧ y.cs = deedF l ∧ y.e = 87 ∧ l.length ≤ maxLen ∧ (∀ d ∈ l, I6 d.1) ∧
      (∀ B ρ, CRel B ρ y.cs (fun j => W.cell? ⟨y.blk, y.base + j, none⟩)) ∧ ∀ (B : Nat → Prop) (ρ : Nat → Pl) (i : Nat), B i → ρ i = ⟨y.blk, y.base, false, 0, 0⟩ → VRel B ρ (.slice i 0 l.length) v2 := by
    obtain ⟨a, len, cap, rfl⟩ := okWide_slice Try.underlying83 (hval 2 83 v2 rfl rfl)
    obtain ⟨fuel, hf⟩ := h2
    exact row_deeds (c := .slice a len cap) (by simpa [Value.cells] using hf) 87
  clear hA0 hval0
  refine (walk k0 k1 W l y a2 cap2 hy hye hbl hbd hyc hyv).mono fun e W' ⟨he, bel⟩ => ?_
  subst he
  exact ⟨_, rfl, _, _, _, [], _, [], hW', trodAll_mk1 (shut_bool Try.underlying4 _),
    (trodAll_cons_mk (shut_int Try.underlying3 wf0) (trodAll_cons_mk (shut_int Try.underlying3 wf1) (trodAll_cons_mk (Below.trod laidOut (by kernel_rfl) (of_decide_eq_true (by kernel_rfl)) kk2 bel lt2) trodAll_mk0))), rfl, bel.frame _, fun h => by cases h⟩

theorem over : Rows.numberPutsRow.holds Try.pinned (OpenSpec.ofChange Rows.numberPutsSpec) :=
  OpenClaim.holds_of_wide 11 Try.f11 rfl rfl rfl rfl rfl rfl rfl ⟨rfl, rfl, rfl, rfl, rfl⟩ rfl rfl rfl rfl rfl (by kernel_rfl) Try.func11 (by kernel_rfl)
    (of_decide_eq_true (by kernel_rfl)) (by unfold Func.isWrapper; first | (rw [if_pos (by decide +kernel)]; kernel_rfl) | (rw [if_neg (by decide +kernel)]; exact ⟨rfl, rfl⟩))
    (fun os started H enc _ => lifted os started H enc)
end NumberPutsDone
theorem numberPuts_holds : Rows.NumberPutsSaid := NumberPutsDone.over
#print axioms numberPuts_holds
end Go.Proofs.Ytbfefpkhalegmaa
