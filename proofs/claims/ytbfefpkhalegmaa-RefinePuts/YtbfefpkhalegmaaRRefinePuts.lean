/- The law RefinePuts holds for every input: regions one behind the other, among other bits, come back from one code. No condition. -/
import Derived.Test.YtbfefpkhalegmaaF9
import Derived.Test.YtbfefpkhalegmaaRows
import Derived.WalkKit
import Derived.ProofKit
import Derived.ShutString

set_option linter.unusedVariables false
set_option linter.unusedSimpArgs false
namespace Go.Proofs.Ytbfefpkhalegmaa
open Go Go.RowKit Go.ChangeShapes Go.WideShapes Go.ChangeAt
namespace RefinePutsDone

theorem own : ownKnob Try.prog.godebug = none := by kernel_rfl
theorem laidOut : laidOutB Try.prog = true := by kernel_rfl

theorem walk (t0 dx0 dy0 : Int) (ty0 : Bool) (kd0 : Int) (hr0 : I64 t0 ∧ I64 dx0 ∧ I64 dy0 ∧ I64 kd0) (l : List Bm) (a1 : Option Addr) (cap1 : Nat) (hlc : l.length ≤ cap1) (hcm : cap1 ≤ maxLen) (W : World) (R : BmRow W l a1 cap1) (w2 v2 : Int) (a2 : Option Addr) (len2 cap2 : Nat) (zs2 : List Int) (ww2 : IsRow .u8 W a2 len2 cap2 zs2)
    (k3 : Int) (bits : List Bool) (y : RoArg) (a4 : Option Addr) (cap4 : Nat) (hy : y.cs = boolsF bits) (hye : y.e = 4) (hbl : bits.length ≤ maxLen) (hyc : ∀ B ρ, CRel B ρ y.cs (fun j => W.cell? ⟨y.blk, y.base + j, none⟩))
    (hyv : ∀ (B : Nat → Prop) (ρ : Nat → Pl) (i : Nat), B i → ρ i = ⟨y.blk, y.base, false, 0, 0⟩ → VRel B ρ (.slice i 0 bits.length) (.slice a4 bits.length cap4)) :
    Calls Try.prog 9 #[.agg #[.int .i64 t0, .int .i64 dx0, .int .i64 dy0, .bool ty0, .int .i64 kd0], .slice a1 l.length cap1, .agg #[.int .i64 w2, .int .i64 v2, .slice a2 len2 cap2], .int .i64 k3, .slice a4 bits.length cap4] W fun e w' => e = .returned (.bool true) ∧ Below W.heap.size W w' := by
  obtain ⟨x2, hx2, he2, hl2, hm2, hw2, hc2, hv2⟩ := row_ints ww2 5
  unfold maxLen at hm2 hbl hcm
  have hby2 : ByOk (zs2.take len2) := fun n hn => wf_u8 (hw2 n hn)
  by_cases h6 : l.length ≤ 6
  · obtain ⟨X, hX, hXv⟩ := R.args 5
    obtain ⟨b, o, hcells, hab⟩ : ∃ b o, (∀ (B : Nat → Prop) (ρ : Nat → Pl), (∀ i, i < 6 → B (3 + i) ∧ ρ (3 + i) = ⟨(X i).blk, (X i).base, false, 0, 0⟩) → CRel B ρ (bmsF 3 l) (fun j => W.cell? ⟨b, o + j, none⟩)) ∧ (cap1 = 0 ∨ a1 = some ⟨b, o, none⟩) := by
      rcases R.at_ with h | ⟨b, o, ha, _⟩
      · obtain rfl : l = [] := List.length_eq_zero_iff.1 (by omega)
        exact ⟨0, 0, fun B ρ _ j v hv => by simp [bmsF] at hv, .inl h⟩
      · refine ⟨b, o, fun B ρ hB => ?_, .inr ha⟩
        obtain ⟨b', o', hc', hab'⟩ := R.cells (B := B) (ρ := ρ) 3 fun i hi => hXv i hi B ρ (3 + i) (hB i (by omega)).1 (hB i (by omega)).2
        rcases hab' with h | h
        · obtain rfl : l = [] := List.length_eq_zero_iff.1 (by omega)
          exact fun j v hv => by simp [bmsF] at hv
        · rw [ha] at h
          simp only [Option.some.injEq, Addr.mk.injEq] at h
          obtain ⟨rfl, rfl, _⟩ := h
          exact hc'
    have hL : roL [⟨bmsF 3 l, 48, b, o⟩, x2, y, X 0, X 1, X 2, X 3, X 4, X 5] = lawL l (zs2.take len2) bits := by
      simp [roL, hx2, he2, hy, hye, (hX 0).1, (hX 0).2.1, (hX 1).1, (hX 1).2.1, (hX 2).1, (hX 2).2.1, (hX 3).1, (hX 3).2.1, (hX 4).1, (hX 4).2.1, (hX 5).1, (hX 5).2.1]
    have c := c_RefinePuts t0 dx0 dy0 hr0.2.1 hr0.2.2.1 ty0 kd0 l h6 (fun i _ => ⟨(hX i).2.2.2.1, by have := (hX i).2.2.2.2; unfold maxLen at this; unfold big; omega⟩) w2 v2 (zs2.take len2) (by unfold big; omega) hby2 k3 bits (by unfold big; omega)
    rw [← hL] at c
    generalize hLL : [⟨bmsF 3 l, 48, b, o⟩, x2, y, X 0, X 1, X 2, X 3, X 4, X 5] = LL at *
    have hbn : ∀ i, i < 9 → born (lh (roL LL)) i := by
      intro i hi
      rw [hL]
      rcases (show i = 0 ∨ i = 1 ∨ i = 2 ∨ i = 3 ∨ i = 4 ∨ i = 5 ∨ i = 6 ∨ i = 7 ∨ i = 8 by omega) with rfl | rfl | rfl | rfl | rfl | rfl | rfl | rfl | rfl <;> trivial
    have hpl : ∀ i, i < 6 → roP LL (3 + i) = ⟨(X i).blk, (X i).base, false, 0, 0⟩ := by
      intro i hi
      rw [← hLL]
      rcases (show i = 0 ∨ i = 1 ∨ i = 2 ∨ i = 3 ∨ i = 4 ∨ i = 5 by omega) with rfl | rfl | rfl | rfl | rfl | rfl <;> rfl
    have hs : Sim Try.prog (roP LL) (lh (roL LL)) W := by
      refine sim_ro fun x hx => ?_
      rw [← hLL] at hx
      simp only [List.mem_cons, List.not_mem_nil, or_false] at hx
      rcases hx with rfl | rfl | rfl | rfl | rfl | rfl | rfl | rfl | rfl
      · exact hcells _ _ fun i hi => ⟨hbn _ (by omega), hpl i hi⟩
      · exact hc2 _ _
      · exact hyc _ _
      · exact (hX 0).2.2.1 _ _
      · exact (hX 1).2.2.1 _ _
      · exact (hX 2).2.2.1 _ _
      · exact (hX 3).2.2.1 _ _
      · exact (hX 4).2.2.1 _ _
      · exact (hX 5).2.2.1 _ _
    refine calls_law (vargs := [.agg #[.int .i64 t0, .int .i64 dx0, .int .i64 dy0, .bool ty0, .int .i64 kd0], .slice a1 l.length cap1, .agg #[.int .i64 w2, .int .i64 v2, .slice a2 len2 cap2], .int .i64 k3, .slice a4 bits.length cap4]) c hs ?_
    have r1 : VRel (born (lh (roL LL))) (roP LL) (.slice 0 0 l.length) (.slice a1 l.length cap1) := by
      have hp0 : roP LL 0 = ⟨b, o, false, 0, 0⟩ := by rw [← hLL]; rfl
      rcases hab with h0 | ha
      · have hl0 : l.length = 0 := by omega
        rw [hl0, h0]; exact .slice0 0 0 a1 (hbn 0 (by omega))
      · rw [ha]
        have := VRel.slice (B := born (lh (roL LL))) (ρ := roP LL) 0 0 l.length cap1 (hbn 0 (by omega)) hlc (fun h => by rw [hp0] at h; cases h)
        rw [hp0] at this
        exact this
    have r2 := hv2 (born (lh (roL LL))) (roP LL) 1 (hbn 1 (by omega)) (by rw [← hLL]; rfl)
    have r4 := hyv (born (lh (roL LL))) (roP LL) 2 (hbn 2 (by omega)) (by rw [← hLL]; rfl)
    simp only [hl2]
    exact (.cons _ _ _ _ (.agg _ _ (.cons _ _ _ _ (.int _ _) (.cons _ _ _ _ (.int _ _) (.cons _ _ _ _ (.int _ _) (.cons _ _ _ _ (.bool _) (.cons _ _ _ _ (.int _ _) .nil)))))) (.cons _ _ _ _ r1 (.cons _ _ _ _ (.agg _ _ (.cons _ _ _ _ (.int _ _) (.cons _ _ _ _ (.int _ _) (.cons _ _ _ _ r2 .nil)))) (.cons _ _ _ _ (.int _ _) (.cons _ _ _ _ r4 .nil)))))
  · obtain ⟨b, o, hab⟩ : ∃ b o, cap1 = 0 ∨ a1 = some ⟨b, o, none⟩ := by
      rcases R.at_ with h | ⟨b, o, ha, _⟩
      · exact ⟨0, 0, .inl h⟩
      · exact ⟨b, o, .inr ha⟩
    have hL : roL [⟨[], 48, b, o⟩, x2, y] = [.ro [] 48, .ro (ints .u8 (zs2.take len2)) 5, .ro (boolsF bits) 4] := by simp [roL, hx2, he2, hy, hye]
    have c := c_RefinePutsBig t0 dx0 dy0 hr0.2.1 hr0.2.2.1 ty0 kd0 l.length (by omega) (by unfold big; omega) w2 v2 (zs2.take len2) (by unfold big; omega) k3 bits (by unfold big; omega)
    rw [← hL] at c
    generalize hLL : [⟨[], 48, b, o⟩, x2, y] = LL at *
    have hbn : ∀ i, i < 3 → born (lh (roL LL)) i := by
      intro i hi
      rw [hL]
      rcases (show i = 0 ∨ i = 1 ∨ i = 2 by omega) with rfl | rfl | rfl <;> trivial
    have hs : Sim Try.prog (roP LL) (lh (roL LL)) W := by
      refine sim_ro fun x hx => ?_
      rw [← hLL] at hx
      simp only [List.mem_cons, List.not_mem_nil, or_false] at hx
      rcases hx with rfl | rfl | rfl
      · exact fun j v hv => by simp at hv
      · exact hc2 _ _
      · exact hyc _ _
    refine calls_law (vargs := [.agg #[.int .i64 t0, .int .i64 dx0, .int .i64 dy0, .bool ty0, .int .i64 kd0], .slice a1 l.length cap1, .agg #[.int .i64 w2, .int .i64 v2, .slice a2 len2 cap2], .int .i64 k3, .slice a4 bits.length cap4]) c hs ?_
    have r1 : VRel (born (lh (roL LL))) (roP LL) (.slice 0 0 l.length) (.slice a1 l.length cap1) := by
      have hp0 : roP LL 0 = ⟨b, o, false, 0, 0⟩ := by rw [← hLL]; rfl
      rcases hab with h0 | ha
      · omega
      · rw [ha]
        have := VRel.slice (B := born (lh (roL LL))) (ρ := roP LL) 0 0 l.length cap1 (hbn 0 (by omega)) hlc (fun h => by rw [hp0] at h; cases h)
        rw [hp0] at this
        exact this
    have r2 := hv2 (born (lh (roL LL))) (roP LL) 1 (hbn 1 (by omega)) (by rw [← hLL]; rfl)
    have r4 := hyv (born (lh (roL LL))) (roP LL) 2 (hbn 2 (by omega)) (by rw [← hLL]; rfl)
    simp only [hl2]
    exact (.cons _ _ _ _ (.agg _ _ (.cons _ _ _ _ (.int _ _) (.cons _ _ _ _ (.int _ _) (.cons _ _ _ _ (.int _ _) (.cons _ _ _ _ (.bool _) (.cons _ _ _ _ (.int _ _) .nil)))))) (.cons _ _ _ _ r1 (.cons _ _ _ _ (.agg _ _ (.cons _ _ _ _ (.int _ _) (.cons _ _ _ _ (.int _ _) (.cons _ _ _ _ r2 .nil)))) (.cons _ _ _ _ (.int _ _) (.cons _ _ _ _ r4 .nil)))))

set_option maxRecDepth 100000 in
theorem lifted (os : Os) (started : os.Started) (H : Type) (enc : TypeId × Value → H) :
    ReturnsInHanded {} Try.checked os 9 .any (Rows.refinePutsSpec.pre6 enc Try.prog Try.f9 Rows.refinePutsRow.domain false) (Rows.refinePutsSpec.post enc Try.prog Try.f9 false true false false) := by
  refine returnsInHanded_of_change (C := Try.checked) own started (by kernel_rfl) Try.func9
    (ChangeSpec.witness6 (enc := enc) (C := Try.checked) false ⟨#[], #[.agg #[.int .i64 0, .int .i64 0, .int .i64 0, .bool false, .int .i64 0], .slice none 0 0, .agg #[.int .i64 0, .int .i64 0, .slice none 0 0], .int .i64 0, .slice none 0 0], []⟩ 8 (by kernel_rfl) (by kernel_rfl) (by kernel_rfl) (by kernel_rfl)) ?_
  intro W base args ds gs before hval0 hW hcnd _
  have hval : ∀ (j : Nat) t v, Try.f9.params[j]? = some t → args[j]? = some v → Value.okWide Try.prog W .any base t v := hval0
  have hW' := hW
  obtain ⟨p, q, hA0, hV, rfl, hfz, hnd⟩ := hW
  have hA : DataW.TrodAll enc Try.prog W 0 (fun _ => true) true Try.f9.params.toList args.toList ds p := hA0
  rw [Try.params9] at hA hval
  obtain ⟨v0, vs0, d0, ds0, p0, q0, hargs, rfl, rfl, h0, r0⟩ := trodAll_cons hA
  obtain ⟨v1, vs1, d1, ds1, p1, q1, rfl, rfl, rfl, h1, r1⟩ := trodAll_cons r0
  obtain ⟨v2, vs2, d2, ds2, p2, q2, rfl, rfl, rfl, h2, r2⟩ := trodAll_cons r1
  obtain ⟨v3, vs3, d3, ds3, p3, q3, rfl, rfl, rfl, h3, r3⟩ := trodAll_cons r2
  obtain ⟨v4, vs4, d4, ds4, p4, q4, rfl, rfl, rfl, h4, r4⟩ := trodAll_cons r3
  obtain ⟨rfl, rfl, rfl⟩ := trodAll_nil r4
  obtain rfl : args = #[v0, v1, v2, v3, v4] := by cases args; simp_all
  obtain ⟨rfl, rfl⟩ := trodVars_none hV
  have kk0 := h0
  have lt0 : ∀ x ∈ p0, x.block < W.heap.size := by obtain ⟨m, hm⟩ := kk0; exact DataW.trod_lt m _ _ _ hm
  have kk1 := h1
  have lt1 : ∀ x ∈ p1, x.block < W.heap.size := by obtain ⟨m, hm⟩ := kk1; exact DataW.trod_lt m _ _ _ hm
  have kk2 := h2
  have lt2 : ∀ x ∈ p2, x.block < W.heap.size := by obtain ⟨m, hm⟩ := kk2; exact DataW.trod_lt m _ _ _ hm
  have kk4 := h4
  have lt4 : ∀ x ∈ p4, x.block < W.heap.size := by obtain ⟨m, hm⟩ := kk4; exact DataW.trod_lt m _ _ _ hm
  obtain ⟨t0, dx0, dy0, ty0, kd0, rfl, hr0⟩ := row_refine (hval 0 43 v0 rfl rfl) h0
  obtain ⟨l, a1, cap1, rfl, hlc, hcm, ⟨R⟩⟩ : ∃ (l : List Bm) (a : Option Addr) (cap : Nat), v1 = .slice a l.length cap ∧ l.length ≤ cap ∧ cap ≤ maxLen ∧ Nonempty (BmRow W l a cap) := by
    obtain ⟨a, len, cap, rfl⟩ := okWide_slice Try.underlying56 (hval 1 56 v1 rfl rfl)
    obtain ⟨fuel, hf⟩ := h1
    exact row_bitmaps (c := .slice a len cap) (by simpa [Value.cells] using hf)
  obtain ⟨w2, v2', a2, len2, cap2, zs2, rfl, ww2, hb2⟩ := row_bitmap (hval 2 48 v2 rfl rfl) h2
  obtain ⟨k3, rfl, rfl, rfl, wf3⟩ := open_int Try.underlying3 (hval 3 3 v3 rfl rfl) h3
  obtain ⟨y, bits, a4, cap4, rfl, hy, hye, hbl, hyc, hyv⟩ : ∃ (y : RoArg) (l : List Bool) (a : Option Addr) (cap : Nat), v4 = .slice a l.length cap ∧ y.cs = boolsF l ∧ y.e = 4 ∧ l.length ≤ maxLen ∧
      (∀ B ρ, CRel B ρ y.cs (fun j => W.cell? ⟨y.blk, y.base + j, none⟩)) ∧ ∀ (B : Nat → Prop) (ρ : Nat → Pl) (i : Nat), B i → ρ i = ⟨y.blk, y.base, false, 0, 0⟩ → VRel B ρ (.slice i 0 l.length) v4 := by
    obtain ⟨a, len, cap, rfl⟩ := okWide_slice Try.underlying57 (hval 4 57 v4 rfl rfl)
    obtain ⟨fuel, hf⟩ := h4
    exact row_bools Try.underlying57 Try.underlying4 (by kernel_rfl) (c := .slice a len cap) (by simpa [Value.cells] using hf) 4
  clear hA0 hval0
  refine (walk t0 dx0 dy0 ty0 kd0 hr0 l a1 cap1 hlc hcm W R w2 v2' a2 len2 cap2 zs2 ww2 k3 bits y a4 cap4 hy hye hbl hyc hyv).mono fun e W' ⟨he, bel⟩ => ?_
  subst he
  exact ⟨_, rfl, _, _, _, [], _, [], hW', trodAll_mk1 (shut_bool Try.underlying4 _),
    (trodAll_cons_mk (Below.trod laidOut (by kernel_rfl) (of_decide_eq_true (by kernel_rfl)) kk0 bel lt0) (trodAll_cons_mk (Below.trod laidOut (by kernel_rfl) (of_decide_eq_true (by kernel_rfl)) kk1 bel lt1) (trodAll_cons_mk (Below.trod laidOut (by kernel_rfl) (of_decide_eq_true (by kernel_rfl)) kk2 bel lt2) (trodAll_cons_mk (shut_int Try.underlying3 wf3) (trodAll_cons_mk (Below.trod laidOut (by kernel_rfl) (of_decide_eq_true (by kernel_rfl)) kk4 bel lt4) trodAll_mk0))))), rfl, bel.frame _, fun h => by cases h⟩

theorem over : Rows.refinePutsRow.holds Try.pinned (OpenSpec.ofChange Rows.refinePutsSpec) :=
  OpenClaim.holds_of_wide 9 Try.f9 rfl rfl rfl rfl rfl rfl rfl ⟨rfl, rfl, rfl, rfl, rfl⟩ rfl rfl rfl rfl rfl (by kernel_rfl) Try.func9 (by kernel_rfl)
    (of_decide_eq_true (by kernel_rfl)) (by unfold Func.isWrapper; first | (rw [if_pos (by decide +kernel)]; kernel_rfl) | (rw [if_neg (by decide +kernel)]; exact ⟨rfl, rfl⟩))
    (fun os started H enc _ => lifted os started H enc)
end RefinePutsDone
theorem refinePuts_holds : Rows.RefinePutsSaid := RefinePutsDone.over
#print axioms refinePuts_holds
end Go.Proofs.Ytbfefpkhalegmaa
