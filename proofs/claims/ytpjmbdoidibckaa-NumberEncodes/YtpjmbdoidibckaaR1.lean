/- The law NumberEncodes holds for every input: the code of numbers is the reference's, and Decode reads it, with anything behind it. No condition. -/
import Derived.Test.YtpjmbdoidibckaaN6
import Derived.Test.YtpjmbdoidibckaaRows
import Derived.WalkKit
import Derived.ProofKit
import Derived.ShutString

set_option linter.unusedVariables false
set_option linter.unusedSimpArgs false
namespace Go.Proofs.Ytpjmbdoidibckaa
open Go Go.RowKit Go.ChangeShapes Go.WideShapes Go.ChangeAt
namespace NumberEncodesDone

theorem own : ownKnob Try.prog.godebug = none := by kernel_rfl
theorem laidOut : laidOutB Try.prog = true := by kernel_rfl

theorem row_nums {H : Type} {enc : TypeId × Value → H} {W : World} {fuel : Nat} {v : Value} {d : DataW H} {ps : List MemPlace} (h : DataW.trod enc Try.prog W 0 (fun _ => true) true fuel 25 [v] = some (d, ps)) (e : TypeId) :
    ∃ (x : RoArg) (l : List (Bool × Int)) (a : Option Addr) (cap : Nat), v = .slice a l.length cap ∧ x.cs = numF l ∧ x.e = e ∧ l.length ≤ maxLen ∧
    (∀ B ρ, CRel B ρ x.cs (fun j => W.cell? ⟨x.blk, x.base + j, none⟩)) ∧ ∀ (B : Nat → Prop) (ρ : Nat → Pl) (i : Nat), B i → ρ i = ⟨x.blk, x.base, false, 0, 0⟩ → VRel B ρ (.slice i 0 l.length) v := by
  rcases Deep.open_slice_pairs Try.underlying25 Try.underlying28 (by kernel_rfl) rfl rfl (by kernel_rfl) (by kernel_rfl) h with ⟨hcs, _⟩ | ⟨a, len, cap, m, n, V0, V1, D0, D1, P0, P1, hcs, _, hl, hm, hmm, _, hx⟩
  · obtain rfl : v = .slice none 0 0 := by simpa using hcs
    exact ⟨⟨[], e, 0, 0⟩, [], none, 0, rfl, rfl, rfl, by simp, fun B ρ j v hv => by simp at hv, fun B ρ i hb _ => .slice0 i 0 none hb⟩
  · obtain rfl : v = .slice (some a) len cap := by simpa using hcs
    simp only [if_true] at hmm
    subst hmm
    by_cases h0 : m = 0
    · have hl0 : len = 0 := by omega
      subst h0 hl0
      exact ⟨⟨[], e, 0, 0⟩, [], some a, 0, rfl, rfl, rfl, by simp, fun B ρ j v hv => by simp at hv, fun B ρ i hb _ => .slice0 i 0 (some a) hb⟩
    · obtain ⟨b, o, sp⟩ := a
      have hc0 := (hx 0 (by omega)).1
      have hsp : sp = none := by simpa [Addr.add] using World.cell?_spot hc0
      subst hsp
      have each : ∀ i, ∃ q : Bool × Int, i < m → V0 i = .bool q.1 ∧ V1 i = .int .i64 q.2 := by
        intro i
        by_cases hi : i < m
        · obtain ⟨_, _, h1, h2⟩ := hx i hi
          obtain ⟨b, hb, _⟩ := DataW.trod_bool Try.underlying4 h1
          obtain ⟨n, hn, _⟩ := DataW.trod_int Try.underlying3 h2
          exact ⟨(b, n), fun _ => ⟨by simpa using hb, by simpa using hn⟩⟩
        · exact ⟨(false, 0), fun h => absurd h hi⟩
      let q := fun i => Classical.choose (each i)
      have hq : ∀ i, i < m → V0 i = .bool (q i).1 ∧ V1 i = .int .i64 (q i).2 := fun i => Classical.choose_spec (each i)
      have hlen : ((List.range len).map q).length = len := by simp
      refine ⟨⟨numF ((List.range len).map q), e, b, o⟩, (List.range len).map q, some ⟨b, o, none⟩, m, by rw [hlen], rfl, rfl, by rw [hlen]; omega, fun B ρ j v hv => ?_, fun B ρ i hb hp => ?_⟩
      · have hjl := (List.getElem?_eq_some_iff.1 hv).1
        rw [numF_len, hlen] at hjl
        obtain ⟨i, r, hir, hr⟩ : ∃ i r, j = i * 2 + r ∧ r < 2 := ⟨j / 2, j % 2, by omega, by omega⟩
        have hil : i < len := by omega
        have hg := numF_get ((List.range len).map q) i (by rw [hlen]; exact hil)
        have hgd : ((List.range len).map q).getD i (false, 0) = q i := by simp [List.getD_eq_getElem?_getD, hil]
        rw [hgd] at hg
        obtain ⟨c0, c1, _, _⟩ := hx i (by omega)
        obtain ⟨e0, e1⟩ := hq i (by omega)
        rw [addr_add] at c0 c1
        have hdrop : ((numF ((List.range len).map q)).drop (i * 2))[r]? = (numF ((List.range len).map q))[j]? := by rw [List.getElem?_drop, hir]
        have htk : (((numF ((List.range len).map q)).drop (i * 2)).take 2)[r]? = (numF ((List.range len).map q))[j]? := by rw [List.getElem?_take, if_pos hr, hdrop]
        rw [hg] at htk
        have hr2 : r = 0 ∨ r = 1 := by omega
        rcases hr2 with rfl | rfl
        · have : v = .bool (q i).1 := by
            have h1 := htk.trans hv
            simpa using h1.symm
          subst this
          refine ⟨.bool (q i).1, ?_, .bool _⟩
          rw [← e0, hir]; exact c0
        · have : v = .int .i64 (q i).2 := by
            have h1 := htk.trans hv
            simpa using h1.symm
          subst this
          refine ⟨.int .i64 (q i).2, ?_, .int _ _⟩
          rw [← e1, hir]
          exact c1
      · rw [hlen]
        have := VRel.slice (B := B) (ρ := ρ) i 0 len m hb hl (fun h => by rw [hp] at h; cases h)
        rw [hp] at this
        exact this

theorem walk (kd : Int) (v1 : Value) (x1 : RoArg) (l : List (Bool × Int)) (a : Option Addr) (len cap : Nat) (zs : List Int) (W : World) (hx : x1.cs = numF l) (he : x1.e = 28) (hl : l.length ≤ maxLen)
    (hc : ∀ B ρ, CRel B ρ x1.cs (fun j => W.cell? ⟨x1.blk, x1.base + j, none⟩)) (hv : ∀ (B : Nat → Prop) (ρ : Nat → Pl) (i : Nat), B i → ρ i = ⟨x1.blk, x1.base, false, 0, 0⟩ → VRel B ρ (.slice i 0 l.length) v1)
    (w2 : IsRow .u8 W a len cap zs) :
    Calls Try.prog 5 #[.int .i64 kd, v1, .slice a len cap] W fun e w' => e = .returned (.bool true) ∧ Below W.heap.size W w' := by
  obtain ⟨x2, hx2, he2, hl2, hm2, hw2, hc2, hv2⟩ := row_ints w2 5
  unfold maxLen at hl hm2
  have hby : ByOk (zs.take len) := fun n hn => wf_u8 (hw2 n hn)
  have hL : roL [x1, x2] = [.ro (numF l) 28, .ro (ints .u8 (zs.take len)) 5] := by simp [roL, hx, he, hx2, he2]
  have c := c_NumberEncodes kd l (zs.take len) (by omega) (by omega) hby
  rw [← hL] at c
  have hs : Sim Try.prog (roP [x1, x2]) (lh (roL [x1, x2])) W := by
    refine sim_ro fun x hx => ?_
    simp only [List.mem_cons, List.not_mem_nil, or_false] at hx
    rcases hx with rfl | rfl
    · exact hc _ _
    · exact hc2 _ _
  refine calls_law (vargs := [.int .i64 kd, v1, .slice a len cap]) c hs ?_
  have b0 : born (lh (roL [x1, x2])) 0 := by rw [hL]; trivial
  have b1 : born (lh (roL [x1, x2])) 1 := by rw [hL]; trivial
  refine .cons _ _ _ _ (.int _ _) (.cons _ _ _ _ (hv _ _ 0 b0 rfl) (.cons _ _ _ _ ?_ .nil))
  have := hv2 (born (lh (roL [x1, x2]))) (roP [x1, x2]) 1 b1 rfl
  rw [hl2]; exact this

set_option maxRecDepth 100000 in
theorem lifted (os : Os) (started : os.Started) (H : Type) (enc : TypeId × Value → H) :
    ReturnsInHanded {} Try.checked os 5 .any (Rows.numberEncodesSpec.pre6 enc Try.prog Try.f5 Rows.numberEncodesRow.domain false) (Rows.numberEncodesSpec.post enc Try.prog Try.f5 false true false false) := by
  refine returnsInHanded_of_change (C := Try.checked) own started (by kernel_rfl) Try.func5
    (ChangeSpec.witness6 (enc := enc) (C := Try.checked) false ⟨#[], #[.int .i64 0, .slice none 0 0, .slice none 0 0], []⟩ 8 (by kernel_rfl) (by kernel_rfl) (by kernel_rfl) (by kernel_rfl)) ?_
  intro W base args ds gs before hval0 hW hcnd _
  have hval : ∀ (j : Nat) t v, Try.f5.params[j]? = some t → args[j]? = some v → Value.okWide Try.prog W .any base t v := hval0
  have hW' := hW
  obtain ⟨p, q, hA0, hV, rfl, hfz, hnd⟩ := hW
  have hA : DataW.TrodAll enc Try.prog W 0 (fun _ => true) true Try.f5.params.toList args.toList ds p := hA0
  rw [Try.params5] at hA hval
  obtain ⟨v0, vs0, d0, ds0, p0, q0, hargs, rfl, rfl, h0, r0⟩ := trodAll_cons hA
  obtain ⟨v1, vs1, d1, ds1, p1, q1, rfl, rfl, rfl, h1, r1⟩ := trodAll_cons r0
  obtain ⟨v2, vs2, d2, ds2, p2, q2, rfl, rfl, rfl, h2, r2⟩ := trodAll_cons r1
  obtain ⟨rfl, rfl, rfl⟩ := trodAll_nil r2
  obtain rfl : args = #[v0, v1, v2] := by cases args; simp_all
  obtain ⟨rfl, rfl⟩ := trodVars_none hV
  obtain ⟨a1, len1, cap1, rfl⟩ := okWide_slice Try.underlying25 (hval 1 25 v1 rfl rfl)
  obtain ⟨a2, len2, cap2, rfl⟩ := okWide_slice Try.underlying24 (hval 2 24 v2 rfl rfl)
  have k1 := h1
  have lt1 : ∀ x ∈ p1, x.block < W.heap.size := by obtain ⟨m, hm⟩ := k1; exact DataW.trod_lt m _ _ _ hm
  have k2 := h2
  have lt2 : ∀ x ∈ p2, x.block < W.heap.size := by obtain ⟨m, hm⟩ := k2; exact DataW.trod_lt m _ _ _ hm
  obtain ⟨fuel, hf⟩ := h1
  have hf' : DataW.trod enc Try.prog W 0 (fun _ => true) true fuel 25 [.slice a1 len1 cap1] = some (d1, p1) := by simpa [Value.cells] using hf
  obtain ⟨x1, l, a, cap, hv1, hx1, he1, hl1, hc1, hr1⟩ := row_nums hf' 28
  clear hf hf'
  obtain ⟨z2, w2⟩ : ∃ zs, IsRow .u8 W a2 len2 cap2 zs := by
    obtain ⟨fuel, hf⟩ := h2
    rcases open_ints Try.underlying24 Try.underlying5 (by kernel_rfl) hf with ⟨hcs, _⟩ | ⟨x, l, c, zs, hcs, _, hl, hm, hz, _, hcell, hwz⟩
    · simp [Value.cells] at hcs
      obtain ⟨rfl, rfl, rfl⟩ := hcs
      exact ⟨[], .inl ⟨rfl, rfl, rfl, rfl⟩⟩
    · simp [Value.cells] at hcs
      obtain ⟨rfl, rfl, rfl⟩ := hcs
      exact ⟨zs, .inr ⟨_, rfl, hl, hm, by simpa using hz, hcell, hwz⟩⟩
  obtain ⟨k0, rfl, rfl, rfl, wf0⟩ := open_int Try.underlying3 (hval 0 3 v0 rfl rfl) h0
  clear hA0 hval0
  refine (walk k0 _ x1 l a2 len2 cap2 z2 W hx1 he1 hl1 hc1 hr1 w2).mono fun e W' ⟨he, bel⟩ => ?_
  subst he
  exact ⟨_, rfl, _, _, _, [], _, [], hW', trodAll_mk1 (shut_bool Try.underlying4 _),
    (trodAll_cons_mk (shut_int Try.underlying3 wf0)
      (trodAll_cons_mk (Below.trod laidOut (by kernel_rfl) (of_decide_eq_true (by kernel_rfl)) k1 bel lt1)
        (trodAll_cons_mk (Below.trod laidOut (by kernel_rfl) (of_decide_eq_true (by kernel_rfl)) k2 bel lt2) trodAll_mk0))), rfl, bel.frame _, fun h => by cases h⟩

theorem over : Rows.numberEncodesRow.holds Try.pinned (OpenSpec.ofChange Rows.numberEncodesSpec) :=
  OpenClaim.holds_of_wide 5 Try.f5 rfl rfl rfl rfl rfl rfl rfl ⟨rfl, rfl, rfl, rfl, rfl⟩ rfl rfl rfl rfl rfl (by kernel_rfl) Try.func5 (by kernel_rfl)
    (of_decide_eq_true (by kernel_rfl)) (by unfold Func.isWrapper; first | (rw [if_pos (by decide +kernel)]; kernel_rfl) | (rw [if_neg (by decide +kernel)]; exact ⟨rfl, rfl⟩))
    (fun os started H enc _ => lifted os started H enc)
end NumberEncodesDone
theorem numberEncodes_holds : Rows.NumberEncodesSaid := NumberEncodesDone.over
#print axioms numberEncodes_holds
end Go.Proofs.Ytpjmbdoidibckaa
