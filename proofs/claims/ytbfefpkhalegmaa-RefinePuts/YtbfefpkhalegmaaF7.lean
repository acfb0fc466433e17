/- The law RefineContext: what it computes, and that it is true. -/
import Derived.Test.YtbfefpkhalegmaaF6
import Derived.KernelRfl

set_option linter.unusedVariables false
set_option linter.unusedSimpArgs false
namespace Go.Proofs.Ytbfefpkhalegmaa
open Go
set_option maxHeartbeats 4000000
set_option maxRecDepth 20000

/-- What Context refuses. -/
abbrev cxOut (w v x y : Int) : Prop := x < 0 ∨ y < 0 ∨ w ≤ x ∨ v ≤ y
def cxE (t dx dy kd w v : Int) (p : List Int) (w' v' : Int) (q : List Int) (x y : Int) : Int :=
  if ¬ OptOk t dx dy kd then 2 else if (bmB w v p && bmB w' v' q) = false then 30 else if cxOut w v x y then 2 else 0
def cxN (t dx dy kd w v : Int) (p : List Int) (w' v' : Int) (q : List Int) (x y : Int) : Int := if cxE t dx dy kd w v p w' v' q x y ≠ 0 then 0 else ctxOf t dx dy w v p w' v' q x y
theorem cxN_bad {t dx dy kd w v : Int} {p : List Int} {w' v' : Int} {q : List Int} {x y a : Int} (h : cxE t dx dy kd w v p w' v' q x y = a) (h0 : a ≠ 0) : cxN t dx dy kd w v p w' v' q x y = 0 := by rw [cxN, if_pos (by rw [h]; exact h0)]
theorem c_pContext (t dx dy : Int) (hdx : I64 dx) (hdy : I64 dy) (ty : Bool) (kd w v w' v' : Int) (p q : List Int) (hpl : p.length ≤ big) (hql : q.length ≤ big) (hbp : ByOk p) (hbq : ByOk q) (x y : Int) :
    LCall Try.prog 62 [optV t dx dy ty kd, bmV w v 0 p.length, bmV w' v' 1 q.length, .int .i64 x, .int .i64 y] (pix2L p q) fun r L =>
      r = .tup [.int .i64 (cxN t dx dy kd w v p w' v' q x y), .int .i64 (cxE t dx dy kd w v p w' v' q x y)] ∧ L = pix2L p q := by
  have hkeep := pix2_keep p q
  have bad : ∀ a, cxE t dx dy kd w v p w' v' q x y = a → a ≠ 0 → (AV.tup [.int .i64 0, .int .i64 a]) = AV.tup [.int .i64 (cxN t dx dy kd w v p w' v' q x y), .int .i64 (cxE t dx dy kd w v p w' v' q x y)] := fun a h h0 => by rw [cxN_bad h h0, h]
  refine lcall_of_vc tyok Try.func62 rfl (by rfl) Try.results62 Try.ntmps62 ?_; intro C hD
  simp (maxSteps := 2000000) only [↓vP0, vQ0, vT0, simprocAttr]
  refine callK_pure (c_pRefValid t dx dy hdx hdy ty kd) rfl rfl ?_
  by_cases ho : OptOk t dx dy kd
  case neg =>
    have f1 : cxE t dx dy kd w v p w' v' q x y = 2 := by rw [cxE, if_pos ho]
    simp (maxSteps := 2000000) only [↓vP0, vQ0, vT0, simprocAttr, dN ho]
    exact exit_keep (L1 := pix2L p q) ⟨bad 2 f1 (by omega), rfl⟩ ⟨trivial, trivial, trivial⟩ hkeep
  case pos =>
    simp (maxSteps := 2000000) only [↓vP0, vQ0, vT0, simprocAttr, dT ho]
    refine callK_read (c_pBmValid w v p hpl) [0] ?_ ?_ ?_ rfl ?_
    · simp [ren, rens, sg, sig, okIn, okIns, exK, leK, leF, leV, matK, objM, renO, roSame, lh, born, AObj.born, AObj.live, injOk, kindOf, rens_ints, okIns_ints, List.range, List.range.loop, mrg, mset]
    · simp [ren, rens, sg, sig, okIn, okIns, exK, leK, leF, leV, matK, objM, renO, roSame, lh, born, AObj.born, AObj.live, injOk, kindOf, rens_ints, okIns_ints, List.range, List.range.loop, mrg, mset]
    · simp [ren, rens, sg, sig, okIn, okIns, exK, leK, leF, leV, matK, objM, renO, roSame, lh, born, AObj.born, AObj.live, injOk, kindOf, rens_ints, okIns_ints, List.range, List.range.loop, mrg, mset]
    cases hb1 : bmB w v p with
    | false =>
      have f1 : cxE t dx dy kd w v p w' v' q x y = 30 := by rw [cxE, if_neg (not_not_intro ho), hb1, Bool.false_and, if_pos rfl]
      simp (maxSteps := 2000000) only [↓vP0, vQ0, vT0, simprocAttr]
      exact exit_keep (L1 := pix2L p q) ⟨bad 30 f1 (by omega), rfl⟩ ⟨trivial, trivial, trivial⟩ hkeep
    | true =>
      simp (maxSteps := 2000000) only [↓vP0, vQ0, vT0, simprocAttr]
      refine callK_read (c_pBmValid w' v' q hql) [1] ?_ ?_ ?_ rfl ?_
      · simp [ren, rens, sg, sig, okIn, okIns, exK, leK, leF, leV, matK, objM, renO, roSame, lh, born, AObj.born, AObj.live, injOk, kindOf, rens_ints, okIns_ints, List.range, List.range.loop, mrg, mset]
      · simp [ren, rens, sg, sig, okIn, okIns, exK, leK, leF, leV, matK, objM, renO, roSame, lh, born, AObj.born, AObj.live, injOk, kindOf, rens_ints, okIns_ints, List.range, List.range.loop, mrg, mset]
      · simp [ren, rens, sg, sig, okIn, okIns, exK, leK, leF, leV, matK, objM, renO, roSame, lh, born, AObj.born, AObj.live, injOk, kindOf, rens_ints, okIns_ints, List.range, List.range.loop, mrg, mset]
      cases hr1 : bmB w' v' q with
      | false =>
        have f1 : cxE t dx dy kd w v p w' v' q x y = 30 := by rw [cxE, if_neg (not_not_intro ho), hr1, Bool.and_false, if_pos rfl]
        simp (maxSteps := 2000000) only [↓vP0, vQ0, vT0, simprocAttr]
        exact exit_keep (L1 := pix2L p q) ⟨bad 30 f1 (by omega), rfl⟩ ⟨trivial, trivial, trivial⟩ hkeep
      | true =>
        have out : cxOut w v x y → cxE t dx dy kd w v p w' v' q x y = 2 := fun h => by rw [cxE, if_neg (not_not_intro ho), hb1, hr1, if_neg (by simp), if_pos h]
        by_cases x0 : x < 0
        · simp (maxSteps := 2000000) only [↓vP0, vQ0, vT0, simprocAttr, dT x0]
          exact exit_keep (L1 := pix2L p q) ⟨bad 2 (out (.inl x0)) (by omega), rfl⟩ ⟨trivial, trivial, trivial⟩ hkeep
        by_cases y0 : y < 0
        · simp (maxSteps := 2000000) only [↓vP0, vQ0, vT0, simprocAttr, dN x0, dT y0]
          exact exit_keep (L1 := pix2L p q) ⟨bad 2 (out (.inr (.inl y0))) (by omega), rfl⟩ ⟨trivial, trivial, trivial⟩ hkeep
        by_cases x1 : w ≤ x
        · simp (maxSteps := 2000000) only [↓vP0, vQ0, vT0, simprocAttr, dN x0, dN y0, dT x1]
          exact exit_keep (L1 := pix2L p q) ⟨bad 2 (out (.inr (.inr (.inl x1)))) (by omega), rfl⟩ ⟨trivial, trivial, trivial⟩ hkeep
        by_cases y1 : v ≤ y
        · simp (maxSteps := 2000000) only [↓vP0, vQ0, vT0, simprocAttr, dN x0, dN y0, dN x1, dT y1]
          exact exit_keep (L1 := pix2L p q) ⟨bad 2 (out (.inr (.inr (.inr y1)))) (by omega), rfl⟩ ⟨trivial, trivial, trivial⟩ hkeep
        obtain ⟨hb, hp⟩ := bmB_ok hbp hb1
        obtain ⟨hr, hq⟩ := bmB_ok hbq hr1
        obtain ⟨⟨s0, s1, s2, s3, s4⟩, s5⟩ := id hb
        have f1 : cxE t dx dy kd w v p w' v' q x y = 0 := by rw [cxE, if_neg (not_not_intro ho), hb1, hr1, if_neg (by simp), if_neg (by unfold cxOut; omega)]
        have f2 : cxN t dx dy kd w v p w' v' q x y = ctxOf t dx dy w v p w' v' q x y := by rw [cxN, if_neg (by rw [f1]; simp)]
        simp (maxSteps := 2000000) only [↓vP0, vQ0, vT0, simprocAttr, dN x0, dN y0, dN x1, dN y1]
        refine callK_det (c_newRegion t dx dy ty kd w v w' v' p q) [0, 1] ?_ ?_ ?_ rfl (by simp) ?_
        · simp [ren, rens, sg, sig, okIn, okIns, exK, leK, leF, leV, matK, objM, renO, roSame, lh, born, AObj.born, AObj.live, injOk, kindOf, rens_ints, okIns_ints, List.range, List.range.loop, mrg, mset]
        · simp [ren, rens, sg, sig, okIn, okIns, exK, leK, leF, leV, matK, objM, renO, roSame, lh, born, AObj.born, AObj.live, injOk, kindOf, rens_ints, okIns_ints, List.range, List.range.loop, mrg, mset]
        · simp [ren, rens, sg, sig, okIn, okIns, exK, leK, leF, leV, matK, objM, renO, roSame, lh, born, AObj.born, AObj.live, injOk, kindOf, rens_ints, okIns_ints, List.range, List.range.loop, mrg, mset]
        simp (maxSteps := 2000000) only [↓vP0, vQ0, vT0, simprocAttr]
        refine callK_read (c_context t ho.1 dx dy ty kd ho.2.2 w v w' v' p q hb hr hp hq x y ⟨by omega, by omega⟩ ⟨by omega, by omega⟩) [5, 0, 1] ?_ ?_ ?_ rfl ?_
        · simp [ren, rens, sg, sig, okIn, okIns, exK, leK, leF, leV, matK, objM, renO, roSame, lh, born, AObj.born, AObj.live, injOk, kindOf, rens_ints, okIns_ints, List.range, List.range.loop, mrg, mset]
        · simp [ren, rens, sg, sig, okIn, okIns, exK, leK, leF, leV, matK, objM, renO, roSame, lh, born, AObj.born, AObj.live, injOk, kindOf, rens_ints, okIns_ints, List.range, List.range.loop, mrg, mset]
        · simp [ren, rens, sg, sig, okIn, okIns, exK, leK, leF, leV, matK, objM, renO, roSame, lh, born, AObj.born, AObj.live, injOk, kindOf, rens_ints, okIns_ints, List.range, List.range.loop, mrg, mset]
        simp (maxSteps := 2000000) only [↓vP0, vQ0, vT0, simprocAttr]
        exact exit_keep (L1 := pix2L p q) ⟨by rw [f1, f2], rfl⟩ ⟨trivial, trivial, trivial⟩ hkeep

theorem c_RefineContext (t dx dy : Int) (hdx : I64 dx) (hdy : I64 dy) (ty : Bool) (kd w v w' v' : Int) (p q : List Int) (hpl : p.length ≤ big) (hql : q.length ≤ big) (hbp : ByOk p) (hbq : ByOk q) (x y : Int) :
    LCall Try.prog 12 [optV t dx dy ty kd, bmV w v 0 p.length, bmV w' v' 1 q.length, .int .i64 x, .int .i64 y] (pix2L p q) fun r L => r = .bool true ∧ L = pix2L p q := by
  have hkeep := pix2_keep p q
  refine lcall_of_vc tyok Try.func12 rfl (by rfl) Try.results12 Try.ntmps12 ?_; intro C hD
  simp (maxSteps := 2000000) only [↓vP0, vQ0, vT0, simprocAttr]
  refine callK_read (c_pContext t dx dy hdx hdy ty kd w v w' v' p q hpl hql hbp hbq x y) [0, 1] ?_ ?_ ?_ rfl ?_
  · simp [ren, rens, sg, sig, okIn, okIns, exK, leK, leF, leV, matK, objM, renO, roSame, lh, born, AObj.born, AObj.live, injOk, kindOf, rens_ints, okIns_ints, List.range, List.range.loop, mrg, mset]
  · simp [ren, rens, sg, sig, okIn, okIns, exK, leK, leF, leV, matK, objM, renO, roSame, lh, born, AObj.born, AObj.live, injOk, kindOf, rens_ints, okIns_ints, List.range, List.range.loop, mrg, mset]
  · simp [ren, rens, sg, sig, okIn, okIns, exK, leK, leF, leV, matK, objM, renO, roSame, lh, born, AObj.born, AObj.live, injOk, kindOf, rens_ints, okIns_ints, List.range, List.range.loop, mrg, mset]
  simp (maxSteps := 2000000) only [↓vP0, vQ0, vT0, simprocAttr]
  refine callK_pure (c_rRefValid t dx dy ty kd) rfl rfl ?_
  by_cases ho : OptOk t dx dy kd
  case neg =>
    have f1 : cxE t dx dy kd w v p w' v' q x y = 2 := by rw [cxE, if_pos ho]
    rw [cxN_bad f1 (by omega), f1]
    simp (maxSteps := 2000000) only [↓vP0, vQ0, vT0, simprocAttr, dN ho]
    refine callK_pure (c_Awake) rfl rfl ?_
    simp (maxSteps := 2000000) only [↓vP0, vQ0, vT0, simprocAttr]
    exact exit_keep (L1 := pix2L p q) ⟨rfl, rfl⟩ trivial hkeep
  case pos =>
    simp (maxSteps := 2000000) only [↓vP0, vQ0, vT0, simprocAttr, dT ho]
    refine callK_read (c_rIsBitmap w v p hpl) [0] ?_ ?_ ?_ rfl ?_
    · simp [ren, rens, sg, sig, okIn, okIns, exK, leK, leF, leV, matK, objM, renO, roSame, lh, born, AObj.born, AObj.live, injOk, kindOf, rens_ints, okIns_ints, List.range, List.range.loop, mrg, mset]
    · simp [ren, rens, sg, sig, okIn, okIns, exK, leK, leF, leV, matK, objM, renO, roSame, lh, born, AObj.born, AObj.live, injOk, kindOf, rens_ints, okIns_ints, List.range, List.range.loop, mrg, mset]
    · simp [ren, rens, sg, sig, okIn, okIns, exK, leK, leF, leV, matK, objM, renO, roSame, lh, born, AObj.born, AObj.live, injOk, kindOf, rens_ints, okIns_ints, List.range, List.range.loop, mrg, mset]
    cases hb1 : bmB w v p with
    | false =>
      have f1 : cxE t dx dy kd w v p w' v' q x y = 30 := by rw [cxE, if_neg (not_not_intro ho), hb1, Bool.false_and, if_pos rfl]
      rw [cxN_bad f1 (by omega), f1]
      simp (maxSteps := 2000000) only [↓vP0, vQ0, vT0, simprocAttr]
      refine callK_pure (c_Awake) rfl rfl ?_
      simp (maxSteps := 2000000) only [↓vP0, vQ0, vT0, simprocAttr]
      exact exit_keep (L1 := pix2L p q) ⟨rfl, rfl⟩ trivial hkeep
    | true =>
      simp (maxSteps := 2000000) only [↓vP0, vQ0, vT0, simprocAttr]
      refine callK_read (c_rIsBitmap w' v' q hql) [1] ?_ ?_ ?_ rfl ?_
      · simp [ren, rens, sg, sig, okIn, okIns, exK, leK, leF, leV, matK, objM, renO, roSame, lh, born, AObj.born, AObj.live, injOk, kindOf, rens_ints, okIns_ints, List.range, List.range.loop, mrg, mset]
      · simp [ren, rens, sg, sig, okIn, okIns, exK, leK, leF, leV, matK, objM, renO, roSame, lh, born, AObj.born, AObj.live, injOk, kindOf, rens_ints, okIns_ints, List.range, List.range.loop, mrg, mset]
      · simp [ren, rens, sg, sig, okIn, okIns, exK, leK, leF, leV, matK, objM, renO, roSame, lh, born, AObj.born, AObj.live, injOk, kindOf, rens_ints, okIns_ints, List.range, List.range.loop, mrg, mset]
      cases hr1 : bmB w' v' q with
      | false =>
        have f1 : cxE t dx dy kd w v p w' v' q x y = 30 := by rw [cxE, if_neg (not_not_intro ho), hr1, Bool.and_false, if_pos rfl]
        rw [cxN_bad f1 (by omega), f1]
        simp (maxSteps := 2000000) only [↓vP0, vQ0, vT0, simprocAttr]
        refine callK_pure (c_Awake) rfl rfl ?_
        simp (maxSteps := 2000000) only [↓vP0, vQ0, vT0, simprocAttr]
        exact exit_keep (L1 := pix2L p q) ⟨rfl, rfl⟩ trivial hkeep
      | true =>
        have out : cxOut w v x y → cxE t dx dy kd w v p w' v' q x y = 2 := fun h => by rw [cxE, if_neg (not_not_intro ho), hb1, hr1, if_neg (by simp), if_pos h]
        by_cases hout : cxOut w v x y
        · have f1 := out hout
          rw [cxN_bad f1 (by omega), f1]
          by_cases x0 : x < 0
          · simp (maxSteps := 2000000) only [↓vP0, vQ0, vT0, simprocAttr, dT x0]
            refine callK_pure (c_Awake) rfl rfl ?_
            simp (maxSteps := 2000000) only [↓vP0, vQ0, vT0, simprocAttr]
            exact exit_keep (L1 := pix2L p q) ⟨rfl, rfl⟩ trivial hkeep
          by_cases y0 : y < 0
          · simp (maxSteps := 2000000) only [↓vP0, vQ0, vT0, simprocAttr, dN x0, dT y0]
            refine callK_pure (c_Awake) rfl rfl ?_
            simp (maxSteps := 2000000) only [↓vP0, vQ0, vT0, simprocAttr]
            exact exit_keep (L1 := pix2L p q) ⟨rfl, rfl⟩ trivial hkeep
          by_cases x1 : w ≤ x
          · simp (maxSteps := 2000000) only [↓vP0, vQ0, vT0, simprocAttr, dN x0, dN y0, dT x1]
            refine callK_pure (c_Awake) rfl rfl ?_
            simp (maxSteps := 2000000) only [↓vP0, vQ0, vT0, simprocAttr]
            exact exit_keep (L1 := pix2L p q) ⟨rfl, rfl⟩ trivial hkeep
          have y1 : v ≤ y := by unfold cxOut at hout; omega
          simp (maxSteps := 2000000) only [↓vP0, vQ0, vT0, simprocAttr, dN x0, dN y0, dN x1, dT y1]
          refine callK_pure (c_Awake) rfl rfl ?_
          simp (maxSteps := 2000000) only [↓vP0, vQ0, vT0, simprocAttr]
          exact exit_keep (L1 := pix2L p q) ⟨rfl, rfl⟩ trivial hkeep
        · have x0 : ¬ x < 0 := by unfold cxOut at hout; omega
          have y0 : ¬ y < 0 := by unfold cxOut at hout; omega
          have x1 : ¬ w ≤ x := by unfold cxOut at hout; omega
          have y1 : ¬ v ≤ y := by unfold cxOut at hout; omega
          obtain ⟨hb, hp⟩ := bmB_ok hbp hb1
          obtain ⟨hr, hq⟩ := bmB_ok hbq hr1
          obtain ⟨⟨s0, s1, s2, s3, s4⟩, s5⟩ := id hb
          have f1 : cxE t dx dy kd w v p w' v' q x y = 0 := by rw [cxE, if_neg (not_not_intro ho), hb1, hr1, if_neg (by simp), if_neg hout]
          have f2 : cxN t dx dy kd w v p w' v' q x y = ctxOf t dx dy w v p w' v' q x y := by rw [cxN, if_neg (by rw [f1]; simp)]
          rw [f1, f2]
          simp (maxSteps := 2000000) only [↓vP0, vQ0, vT0, simprocAttr, dN x0, dN y0, dN x1, dN y1]
          refine callK_read (c_rContext t ho.1 dx dy ty kd ho.2.2 w v w' v' p q hb hr hp hq x y ⟨by omega, by omega⟩ ⟨by omega, by omega⟩) [0, 1] ?_ ?_ ?_ rfl ?_
          · simp [ren, rens, sg, sig, okIn, okIns, exK, leK, leF, leV, matK, objM, renO, roSame, lh, born, AObj.born, AObj.live, injOk, kindOf, rens_ints, okIns_ints, List.range, List.range.loop, mrg, mset]
          · simp [ren, rens, sg, sig, okIn, okIns, exK, leK, leF, leV, matK, objM, renO, roSame, lh, born, AObj.born, AObj.live, injOk, kindOf, rens_ints, okIns_ints, List.range, List.range.loop, mrg, mset]
          · simp [ren, rens, sg, sig, okIn, okIns, exK, leK, leF, leV, matK, objM, renO, roSame, lh, born, AObj.born, AObj.live, injOk, kindOf, rens_ints, okIns_ints, List.range, List.range.loop, mrg, mset]
          simp (maxSteps := 2000000) only [↓vP0, vQ0, vT0, simprocAttr]
          refine callK_pure (c_Awake) rfl rfl ?_
          simp (maxSteps := 2000000) only [↓vP0, vQ0, vT0, simprocAttr]
          exact exit_keep (L1 := pix2L p q) ⟨rfl, rfl⟩ trivial hkeep
end Go.Proofs.Ytbfefpkhalegmaa

set_option linter.unusedVariables false
set_option linter.unusedSimpArgs false
namespace Go.Proofs.Ytbfefpkhalegmaa
open Go
set_option maxHeartbeats 4000000
set_option maxRecDepth 20000

theorem c_p8PutNil (base t dx dy : Int) (ty : Bool) (kd w v w' v' : Int) (p q : List Int) :
    LCall Try.prog 38 [.nilptr, .int .i64 base, optV t dx dy ty kd, bmV w v 0 p.length, bmV w' v' 1 q.length] (pix2L p q) fun r L => r = .int .i64 7 ∧ L = pix2L p q := by
  have hkeep := pix2_keep p q
  refine lcall_of_vc tyok Try.func38 rfl (by rfl) Try.results38 Try.ntmps38 ?_; intro C hD
  simp (maxSteps := 2000000) only [↓vP0, vQ0, vT0, simprocAttr]
  refine callK_pure (c_pPutNil (-1) 0) rfl rfl ?_
  simp (maxSteps := 2000000) only [↓vP0, vQ0, vT0, simprocAttr]
  exact exit_keep (L1 := pix2L p q) ⟨rfl, rfl⟩ trivial hkeep
theorem c_p8GetNil (base t dx dy : Int) (ty : Bool) (kd w v w' v' : Int) (q : List Int) :
    LCall Try.prog 49 [.nilptr, .int .i64 base, optV t dx dy ty kd, .int .i64 w, .int .i64 v, bmV w' v' 0 q.length] [.ro (ints .u8 q) 5] fun r L =>
      r = .tup [.agg [.int .i64 0, .int .i64 0, .nilslice], .int .i64 7] ∧ L = [.ro (ints .u8 q) 5] := by
  have hkeep : keepL 1 [AObj.ro (ints .u8 q) 5] [AObj.ro (ints .u8 q) 5] := ⟨⟨rfl, by rw [okIns_ints]; trivial⟩, trivial⟩
  refine lcall_of_vc tyok Try.func49 rfl (by rfl) Try.results49 Try.ntmps49 ?_; intro C hD
  simp (maxSteps := 2000000) only [↓vP0, vQ0, vT0, simprocAttr]
  refine callK_pure (c_pGetNil (-1)) rfl rfl ?_
  simp (maxSteps := 2000000) only [↓vP0, vQ0, vT0, simprocAttr]
  exact exit_keep (L1 := [AObj.ro (ints .u8 q) 5]) ⟨rfl, rfl⟩ (by simp [okIn, okIns]) hkeep

theorem gP_len' {t dx dy : Int} {ty : Bool} {kd base w v w' v' : Int} {q : List Int} {d : Dec} (hd : d.Ok) (hbq : ByOk q) : (gP t dx dy ty kd base w v w' v' q d).length ≤ 9223372036854775807 := by
  unfold gP
  split
  · simp
  · rename_i h
    have h0 : gE t dx dy ty kd base w v w' v' q d = 0 := by omega
    unfold gE at h0
    split at h0
    · rename_i hh; exact absurd h0 hh
    rename_i hask
    have hask : gAsk t dx dy kd base w v w' v' q d = 0 := by omega
    rw [gAsk, askErr] at hask
    have ho : OptOk t dx dy kd := by
      by_cases hh : OptOk t dx dy kd
      · exact hh
      · rw [if_pos hh] at hask; omega
    rw [if_neg (not_not_intro ho)] at hask
    have hsr : (sizeB w v && bmB w' v' q) = true := by
      cases hh : (sizeB w v && bmB w' v' q) with
      | true => rfl
      | false => rw [hh, if_pos rfl] at hask; omega
    have hfit : ¬ (base < 0 ∨ (d.st.length : Int) - sizeN t < base) := by
      intro h
      rw [hsr, if_neg (by simp), if_pos h] at hask; omega
    rw [Bool.and_eq_true] at hsr
    have hsz := (sizeB_iff w v).1 hsr.1
    obtain ⟨hr, hq⟩ := bmB_ok hbq hsr.2
    have hs0 : sizeN t = 513 ∨ sizeN t = 129 := by unfold sizeN; split <;> simp
    have hI : RInv d (w * v).toNat d (zeros (w * v).toNat) := ⟨⟨hd, rfl, rfl, rfl⟩, fun z hz => by simp [zeros] at hz; omega, by simp [zeros]⟩
    have := (regRun_inv (dx := dx) (dy := dy) (base := base.toNat) (w := w) (v := v) (w' := w') (v' := v') ho.1 hq (by omega) ty v.toNat 0 _ _ hI).2.2
    have hm := area_bd hsz.1 hsz.2.1 hsz.2.2.1 hsz.2.2.2.1
    have e : gRun t dx dy ty base w v w' v' q d = regRun t dx dy base.toNat w v w' v' q ty v.toNat 0 d (zeros (w * v).toNat) := rfl
    rw [e, this]; omega

/-- A long list of one cell, which the evaluator is not to spell. -/
def repN (n : Nat) (x : List AV) : List (List AV) := List.replicate n x
theorem rep2000 (x : List AV) : List.replicate (Int.toNat 2000) x = repN 2000 x := rfl

theorem c_RefineErrors (t dx dy : Int) (hdx : I64 dx) (hdy : I64 dy) (ty : Bool) (kd w v w' v' : Int) (p q : List Int) (hpl : p.length ≤ big) (hql : q.length ≤ big) (hbp : ByOk p) (hbq : ByOk q) (base states : Int) (hbase : I64 base) :
    LCall Try.prog 10 [optV t dx dy ty kd, bmV w v 0 p.length, bmV w' v' 1 q.length, .int .i64 base, .int .i64 states] (pix2L p q) fun r L => r = .bool true ∧ L = pix2L p q := by
  have hkeep := pix2_keep p q
  refine lcall_of_vc tyok Try.func10 rfl (by rfl) Try.results10 Try.ntmps10 ?_; intro C hD
  by_cases n0 : states < 0
  · simp (maxSteps := 2000000) only [↓vP0, vQ0, vT0, simprocAttr, dT n0]
    refine callK_pure (c_Awake) rfl rfl ?_
    simp (maxSteps := 2000000) only [↓vP0, vQ0, vT0, simprocAttr]
    exact exit_keep (L1 := pix2L p q) ⟨rfl, rfl⟩ trivial hkeep
  by_cases n1 : 2000 < states
  · simp (maxSteps := 2000000) only [↓vP0, vQ0, vT0, simprocAttr, dN n0, dT n1]
    refine callK_pure (c_Awake) rfl rfl ?_
    simp (maxSteps := 2000000) only [↓vP0, vQ0, vT0, simprocAttr]
    exact exit_keep (L1 := pix2L p q) ⟨rfl, rfl⟩ trivial hkeep
  obtain ⟨n, rfl⟩ : ∃ n : Nat, states = (n : Int) := ⟨_, (Int.toNat_of_nonneg (by omega)).symm⟩
  have hz : StsOk 0 (zeros n) := zeros_ok (by simp [KdOk]) (by omega)
  have hN := encNew_ok hz
  obtain ⟨Z, hZ⟩ : ∃ Z, Z = zeros 2000 := ⟨_, rfl⟩
  have hZl : Z.length = 2000 := by rw [hZ, zeros_len]
  have hbc : ByOk Z := fun x hx => by rw [hZ] at hx; have := List.eq_of_mem_replicate hx; omega
  have hk2 : (repN 2000 [AV.int .u8 0]).flatten = ints .u8 Z := by rw [hZ, repN, ints, zeros, List.map_replicate]; exact List.flatten_replicate_singleton
  have hd0 : (decNew 0 (zeros n) Z).Ok := decNew_ok hz hbc
  simp (maxSteps := 2000000) only [↓vP0, vQ0, vT0, simprocAttr, dN n0, dN n1]
  refine chk_intro (by omega) ?_
  simp (maxSteps := 2000000) only [↓vP0, vQ0, vT0, simprocAttr]
  refine callK_det (c_pNewEncoder 0 (zeros n) hz) [5] ?_ ?_ ?_ rfl (by simp [zeros]) ?_
  · simp [ren, rens, sg, sig, okIn, okIns, exK, leK, leF, leV, matK, objM, renO, roSame, lh, born, AObj.born, AObj.live, injOk, kindOf, rens_ints, okIns_ints, List.range, List.range.loop, mrg, mset, zeros]
  · simp [ren, rens, sg, sig, okIn, okIns, exK, leK, leF, leV, matK, objM, renO, roSame, lh, born, AObj.born, AObj.live, injOk, kindOf, rens_ints, okIns_ints, List.range, List.range.loop, mrg, mset, zeros]
  · simp [ren, rens, sg, sig, okIn, okIns, exK, leK, leF, leV, matK, objM, renO, roSame, lh, born, AObj.born, AObj.live, injOk, kindOf, rens_ints, okIns_ints, List.range, List.range.loop, mrg, mset, zeros]
  simp (maxSteps := 2000000) only [↓vP0, vQ0, vT0, simprocAttr, pEncC_rens]
  refine drawK_of tyok rfl (usL [[1]]) (fun i => .below 10) (by kernel_rfl) ?_
  simp (maxSteps := 2000000) only [↓vP0, vQ0, vT0, simprocAttr, ↓rep2000, hk2]
  refine callK_det (c_pNewDecoder 0 (zeros n) Z hz hbc (by omega)) [5, 10] ?_ ?_ ?_ rfl (by simp [zeros, hZl]) ?_
  · simp [ren, rens, sg, sig, okIn, okIns, exK, leK, leF, leV, matK, objM, renO, roSame, lh, born, AObj.born, AObj.live, injOk, kindOf, rens_ints, okIns_ints, List.range, List.range.loop, mrg, mset, zeros, hZl]
  · simp [ren, rens, sg, sig, okIn, okIns, exK, leK, leF, leV, matK, objM, renO, roSame, lh, born, AObj.born, AObj.live, injOk, kindOf, rens_ints, okIns_ints, List.range, List.range.loop, mrg, mset, zeros, hZl]
  · simp [ren, rens, sg, sig, okIn, okIns, exK, leK, leF, leV, matK, objM, renO, roSame, lh, born, AObj.born, AObj.live, injOk, kindOf, rens_ints, okIns_ints, List.range, List.range.loop, mrg, mset, zeros, hZl]
  simp (maxSteps := 2000000) only [↓vP0, vQ0, vT0, simprocAttr, pDecC_rens]
  refine callK_det (c_rNewEncoder 0 (zeros n) hz) [5] ?_ ?_ ?_ rfl (by simp [zeros]) ?_
  · simp [ren, rens, sg, sig, okIn, okIns, exK, leK, leF, leV, matK, objM, renO, roSame, lh, born, AObj.born, AObj.live, injOk, kindOf, rens_ints, okIns_ints, List.range, List.range.loop, mrg, mset, zeros]
  · simp [ren, rens, sg, sig, okIn, okIns, exK, leK, leF, leV, matK, objM, renO, roSame, lh, born, AObj.born, AObj.live, injOk, kindOf, rens_ints, okIns_ints, List.range, List.range.loop, mrg, mset, zeros]
  · simp [ren, rens, sg, sig, okIn, okIns, exK, leK, leF, leV, matK, objM, renO, roSame, lh, born, AObj.born, AObj.live, injOk, kindOf, rens_ints, okIns_ints, List.range, List.range.loop, mrg, mset, zeros]
  simp (maxSteps := 2000000) only [↓vP0, vQ0, vT0, simprocAttr, rEncC_rens]
  refine drawK_of tyok rfl (usL [[1]]) (fun i => .below 17) (by kernel_rfl) ?_
  simp (maxSteps := 2000000) only [↓vP0, vQ0, vT0, simprocAttr, ↓rep2000, hk2]
  refine callK_det (c_rNewDecoder 0 (zeros n) Z hz hbc (by omega)) [5, 17] ?_ ?_ ?_ rfl (by simp [zeros, hZl]) ?_
  · simp [ren, rens, sg, sig, okIn, okIns, exK, leK, leF, leV, matK, objM, renO, roSame, lh, born, AObj.born, AObj.live, injOk, kindOf, rens_ints, okIns_ints, List.range, List.range.loop, mrg, mset, zeros, hZl]
  · simp [ren, rens, sg, sig, okIn, okIns, exK, leK, leF, leV, matK, objM, renO, roSame, lh, born, AObj.born, AObj.live, injOk, kindOf, rens_ints, okIns_ints, List.range, List.range.loop, mrg, mset, zeros, hZl]
  · simp [ren, rens, sg, sig, okIn, okIns, exK, leK, leF, leV, matK, objM, renO, roSame, lh, born, AObj.born, AObj.live, injOk, kindOf, rens_ints, okIns_ints, List.range, List.range.loop, mrg, mset, zeros, hZl]
  simp (maxSteps := 2000000) only [↓vP0, vQ0, vT0, simprocAttr, rDecC_rens]
  have hst : (encNew 0 (zeros n)).st.length = n := by simp [encNew, zeros]
  have hsD : (decNew 0 (zeros n) Z).st = zeros n := rfl
  have hcD : (decNew 0 (zeros n) Z).code = Z := rfl
  have hgp : (gP t dx dy ty kd base w v w' v' q (decNew 0 (zeros n) Z)).length ≤ 9223372036854775807 := gP_len' hd0 hbq
  have cp := c_p8Get (decNew 0 (zeros n) Z) hd0 (by rw [hsD, zeros_len]; omega) (by rw [hcD]; omega) base hbase t dx dy hdx hdy ty kd w v w' v' q hql hbq
  have cr := c_r8Get (decNew 0 (zeros n) Z) hd0 (by rw [hsD, zeros_len]; omega) (by rw [hcD]; omega) base t dx dy ty kd w v w' v' q hql hbq
  refine drawK_of tyok rfl (usL [[], [], [], [], [], [], [], [], [5], [5], [5]]) (fun i => if i = 5 then .below 5 else .below 0) (by kernel_rfl) ?_
  by_cases hask : askErr t dx dy kd (bmB w v p && bmB w' v' q) base n = 0
  case neg =>
    simp (maxSteps := 2000000) only [↓vP0, vQ0, vT0, simprocAttr]
    refine callK_read (c_p8PutErr (encNew 0 (zeros n)) base hbase t dx dy hdx hdy ty kd w v w' v' p q hpl hql (by omega) (by rw [hst]; exact hask)) [7, 8, 9, 0, 1] ?_ ?_ ?_ rfl ?_
    · simp [ren, rens, sg, sig, okIn, okIns, exK, leK, leF, leV, matK, objM, renO, roSame, lh, born, AObj.born, AObj.live, injOk, kindOf, rens_ints, okIns_ints, List.range, List.range.loop, mrg, mset, pEncL, pEncC_rens, pEncC_okIns, pEncC_inj, encNew, ints_nil]
    · simp [ren, rens, sg, sig, okIn, okIns, exK, leK, leF, leV, matK, objM, renO, roSame, lh, born, AObj.born, AObj.live, injOk, kindOf, rens_ints, okIns_ints, List.range, List.range.loop, mrg, mset, pEncL, pEncC_rens, pEncC_okIns, pEncC_inj, encNew, ints_nil]
    · simp [ren, rens, sg, sig, okIn, okIns, exK, leK, leF, leV, matK, objM, renO, roSame, lh, born, AObj.born, AObj.live, injOk, kindOf, rens_ints, okIns_ints, List.range, List.range.loop, mrg, mset, pEncL, pEncC_rens, pEncC_okIns, pEncC_inj, encNew, ints_nil]
    simp (maxSteps := 2000000) only [↓vP0, vQ0, vT0, simprocAttr]
    refine callK_read (c_r8PutErr (encNew 0 (zeros n)) base t dx dy ty kd w v w' v' p q hpl hql (by omega) (by rw [hst]; exact hask)) [14, 15, 16, 0, 1] ?_ ?_ ?_ rfl ?_
    · simp [ren, rens, sg, sig, okIn, okIns, exK, leK, leF, leV, matK, objM, renO, roSame, lh, born, AObj.born, AObj.live, injOk, kindOf, rens_ints, okIns_ints, List.range, List.range.loop, mrg, mset, rEncL, rEncC_rens, rEncC_okIns, rEncC_inj, encNew, ints_nil]
    · simp [ren, rens, sg, sig, okIn, okIns, exK, leK, leF, leV, matK, objM, renO, roSame, lh, born, AObj.born, AObj.live, injOk, kindOf, rens_ints, okIns_ints, List.range, List.range.loop, mrg, mset, rEncL, rEncC_rens, rEncC_okIns, rEncC_inj, encNew, ints_nil]
    · simp [ren, rens, sg, sig, okIn, okIns, exK, leK, leF, leV, matK, objM, renO, roSame, lh, born, AObj.born, AObj.live, injOk, kindOf, rens_ints, okIns_ints, List.range, List.range.loop, mrg, mset, rEncL, rEncC_rens, rEncC_okIns, rEncC_inj, encNew, ints_nil]
    have e0 : ∀ z : Int, (z != z) = false := fun z => by simp
    simp (maxSteps := 2000000) only [↓vP0, vQ0, vT0, simprocAttr, e0]
    refine callK_det (c_pEnd (encNew 0 (zeros n)) hN (by simp [encNew])) [7, 8, 9] ?_ ?_ ?_ rfl (by simp [pEncR, pEncC_rens, pEncC_okIns, pEncC_inj, encNew, ints_nil]) ?_
    · simp [ren, rens, sg, sig, okIn, okIns, exK, leK, leF, leV, matK, objM, renO, roSame, lh, born, AObj.born, AObj.live, injOk, kindOf, rens_ints, okIns_ints, List.range, List.range.loop, mrg, mset, pEncR, pEncC_rens, pEncC_okIns, pEncC_inj, encNew, ints_nil]
    · simp [ren, rens, sg, sig, okIn, okIns, exK, leK, leF, leV, matK, objM, renO, roSame, lh, born, AObj.born, AObj.live, injOk, kindOf, rens_ints, okIns_ints, List.range, List.range.loop, mrg, mset, pEncR, pEncC_rens, pEncC_okIns, pEncC_inj, encNew, ints_nil]
    · simp [ren, rens, sg, sig, okIn, okIns, exK, leK, leF, leV, matK, objM, renO, roSame, lh, born, AObj.born, AObj.live, injOk, kindOf, rens_ints, okIns_ints, List.range, List.range.loop, mrg, mset, pEncR, pEncC_rens, pEncC_okIns, pEncC_inj, encNew, ints_nil]
    simp only [pEncR]
    simp (maxSteps := 2000000) only [↓vP0, vQ0, vT0, simprocAttr]
    refine callK_det (c_rEnd (encNew 0 (zeros n)) hN (by simp [encNew])) [14, 15, 16] ?_ ?_ ?_ rfl (by simp [rEncR, rEncC_rens, rEncC_okIns, rEncC_inj, encNew, ints_nil]) ?_
    · simp [ren, rens, sg, sig, okIn, okIns, exK, leK, leF, leV, matK, objM, renO, roSame, lh, born, AObj.born, AObj.live, injOk, kindOf, rens_ints, okIns_ints, List.range, List.range.loop, mrg, mset, rEncR, rEncC_rens, rEncC_okIns, rEncC_inj, encNew, ints_nil]
    · simp [ren, rens, sg, sig, okIn, okIns, exK, leK, leF, leV, matK, objM, renO, roSame, lh, born, AObj.born, AObj.live, injOk, kindOf, rens_ints, okIns_ints, List.range, List.range.loop, mrg, mset, rEncR, rEncC_rens, rEncC_okIns, rEncC_inj, encNew, ints_nil]
    · simp [ren, rens, sg, sig, okIn, okIns, exK, leK, leF, leV, matK, objM, renO, roSame, lh, born, AObj.born, AObj.live, injOk, kindOf, rens_ints, okIns_ints, List.range, List.range.loop, mrg, mset, rEncR, rEncC_rens, rEncC_okIns, rEncC_inj, encNew, ints_nil]
    simp only [rEncR]
    simp (maxSteps := 2000000) only [↓vP0, vQ0, vT0, simprocAttr]
    have hfl : (encNew 0 (zeros n)).fin.length ≤ 9223372036854775807 := by
      rw [Enc.fin, List.length_append]
      have : ∀ hi n, (endL hi n).length ≤ 4 := fun hi n => by simp [endL]; omega
      have := this (encNew 0 (zeros n)).hi (endN (encNew 0 (zeros n)).lo (encNew 0 (zeros n)).hi)
      have h0 : (encNew 0 (zeros n)).out.length = 0 := by simp [encNew]
      omega
    generalize (encNew 0 (zeros n)).fin = F at *
    refine callK_read (c_SameBytes F F hfl hfl) [21, 22] ?_ ?_ ?_ rfl ?_
    · simp [ren, rens, sg, sig, okIn, okIns, exK, leK, leF, leV, matK, objM, renO, roSame, lh, born, AObj.born, AObj.live, injOk, kindOf, rens_ints, okIns_ints, List.range, List.range.loop, mrg, mset]
    · simp [ren, rens, sg, sig, okIn, okIns, exK, leK, leF, leV, matK, objM, renO, roSame, lh, born, AObj.born, AObj.live, injOk, kindOf, rens_ints, okIns_ints, List.range, List.range.loop, mrg, mset]
    · simp [ren, rens, sg, sig, okIn, okIns, exK, leK, leF, leV, matK, objM, renO, roSame, lh, born, AObj.born, AObj.live, injOk, kindOf, rens_ints, okIns_ints, List.range, List.range.loop, mrg, mset]
    simp (maxSteps := 2000000) only [↓vP0, vQ0, vT0, simprocAttr, dT (show F = F from rfl)]
    refine callK_det (cp) [11, 12, 13, 1] ?_ ?_ ?_ rfl (by simp [getL, pDecL, pDecC_rens, pDecC_okIns, pDecC_inj, hsD, hcD, ints_nil]) ?_
    · simp [ren, rens, sg, sig, okIn, okIns, exK, leK, leF, leV, matK, objM, renO, roSame, lh, born, AObj.born, AObj.live, injOk, kindOf, rens_ints, okIns_ints, List.range, List.range.loop, mrg, mset, getL, pDecL, pDecC_rens, pDecC_okIns, pDecC_inj, hsD, hcD, ints_nil]
    · simp [ren, rens, sg, sig, okIn, okIns, exK, leK, leF, leV, matK, objM, renO, roSame, lh, born, AObj.born, AObj.live, injOk, kindOf, rens_ints, okIns_ints, List.range, List.range.loop, mrg, mset, getL, pDecL, pDecC_rens, pDecC_okIns, pDecC_inj, hsD, hcD, ints_nil]
    · simp [ren, rens, sg, sig, okIn, okIns, exK, leK, leF, leV, matK, objM, renO, roSame, lh, born, AObj.born, AObj.live, injOk, kindOf, rens_ints, okIns_ints, List.range, List.range.loop, mrg, mset, getL, pDecL, pDecC_rens, pDecC_okIns, pDecC_inj, hsD, hcD, ints_nil]
    simp only [getL, pDecL]
    simp (maxSteps := 2000000) only [↓vP0, vQ0, vT0, simprocAttr, pDecC_rens]
    refine callK_det (cr) [18, 19, 20, 1] ?_ ?_ ?_ rfl (by simp [rDecL, rDecC_rens, rDecC_okIns, rDecC_inj, hsD, hcD, ints_nil]) ?_
    · simp [ren, rens, sg, sig, okIn, okIns, exK, leK, leF, leV, matK, objM, renO, roSame, lh, born, AObj.born, AObj.live, injOk, kindOf, rens_ints, okIns_ints, List.range, List.range.loop, mrg, mset, rDecL, rDecC_rens, rDecC_okIns, rDecC_inj, hsD, hcD, ints_nil]
    · simp [ren, rens, sg, sig, okIn, okIns, exK, leK, leF, leV, matK, objM, renO, roSame, lh, born, AObj.born, AObj.live, injOk, kindOf, rens_ints, okIns_ints, List.range, List.range.loop, mrg, mset, rDecL, rDecC_rens, rDecC_okIns, rDecC_inj, hsD, hcD, ints_nil]
    · simp [ren, rens, sg, sig, okIn, okIns, exK, leK, leF, leV, matK, objM, renO, roSame, lh, born, AObj.born, AObj.live, injOk, kindOf, rens_ints, okIns_ints, List.range, List.range.loop, mrg, mset, rDecL, rDecC_rens, rDecC_okIns, rDecC_inj, hsD, hcD, ints_nil]
    simp only [rDecL]
    simp (maxSteps := 2000000) only [↓vP0, vQ0, vT0, simprocAttr, rDecC_rens]
    refine callK_read (c_p8GetNil base t dx dy ty kd w v w' v' q) [1] ?_ ?_ ?_ rfl ?_
    · simp [ren, rens, sg, sig, okIn, okIns, exK, leK, leF, leV, matK, objM, renO, roSame, lh, born, AObj.born, AObj.live, injOk, kindOf, rens_ints, okIns_ints, List.range, List.range.loop, mrg, mset]
    · simp [ren, rens, sg, sig, okIn, okIns, exK, leK, leF, leV, matK, objM, renO, roSame, lh, born, AObj.born, AObj.live, injOk, kindOf, rens_ints, okIns_ints, List.range, List.range.loop, mrg, mset]
    · simp [ren, rens, sg, sig, okIn, okIns, exK, leK, leF, leV, matK, objM, renO, roSame, lh, born, AObj.born, AObj.live, injOk, kindOf, rens_ints, okIns_ints, List.range, List.range.loop, mrg, mset]
    have e2 : ∀ z : Int, (z == z) = true := fun z => by simp
    simp (maxSteps := 2000000) only [↓vP0, vQ0, vT0, simprocAttr, e2]
    generalize gP t dx dy ty kd base w v w' v' q (decNew 0 (zeros n) Z) = P at *
    generalize gW t dx dy ty kd base w v w' v' q (decNew 0 (zeros n) Z) = W at *
    generalize gV t dx dy ty kd base w v w' v' q (decNew 0 (zeros n) Z) = V at *
    refine callK_read (c_SameBitmap W V W V P P hgp hgp) [23, 25] ?_ ?_ ?_ rfl ?_
    · simp [ren, rens, sg, sig, okIn, okIns, exK, leK, leF, leV, matK, objM, renO, roSame, lh, born, AObj.born, AObj.live, injOk, kindOf, rens_ints, okIns_ints, List.range, List.range.loop, mrg, mset]
    · simp [ren, rens, sg, sig, okIn, okIns, exK, leK, leF, leV, matK, objM, renO, roSame, lh, born, AObj.born, AObj.live, injOk, kindOf, rens_ints, okIns_ints, List.range, List.range.loop, mrg, mset]
    · simp [ren, rens, sg, sig, okIn, okIns, exK, leK, leF, leV, matK, objM, renO, roSame, lh, born, AObj.born, AObj.live, injOk, kindOf, rens_ints, okIns_ints, List.range, List.range.loop, mrg, mset]
    simp (maxSteps := 2000000) only [↓vP0, vQ0, vT0, simprocAttr, dT (show W = W ∧ V = V ∧ P = P from ⟨rfl, rfl, rfl⟩)]
    refine callK_read (c_p8PutNil base t dx dy ty kd w v w' v' p q) [0, 1] ?_ ?_ ?_ rfl ?_
    · simp [ren, rens, sg, sig, okIn, okIns, exK, leK, leF, leV, matK, objM, renO, roSame, lh, born, AObj.born, AObj.live, injOk, kindOf, rens_ints, okIns_ints, List.range, List.range.loop, mrg, mset]
    · simp [ren, rens, sg, sig, okIn, okIns, exK, leK, leF, leV, matK, objM, renO, roSame, lh, born, AObj.born, AObj.live, injOk, kindOf, rens_ints, okIns_ints, List.range, List.range.loop, mrg, mset]
    · simp [ren, rens, sg, sig, okIn, okIns, exK, leK, leF, leV, matK, objM, renO, roSame, lh, born, AObj.born, AObj.live, injOk, kindOf, rens_ints, okIns_ints, List.range, List.range.loop, mrg, mset]
    simp (maxSteps := 2000000) only [↓vP0, vQ0, vT0, simprocAttr]
    refine callK_pure (c_Awake) rfl rfl ?_
    simp (maxSteps := 2000000) only [↓vP0, vQ0, vT0, simprocAttr]
    exact exit_keep (L1 := pix2L p q) ⟨rfl, rfl⟩ trivial hkeep
  case pos =>
    have hask' := hask
    rw [askErr] at hask'
    have ho : OptOk t dx dy kd := by
      by_cases h : OptOk t dx dy kd
      · exact h
      · rw [if_pos h] at hask'; omega
    rw [if_neg (not_not_intro ho)] at hask'
    have hsr : (bmB w v p && bmB w' v' q) = true := by
      cases h : (bmB w v p && bmB w' v' q) with
      | true => rfl
      | false => rw [h, if_pos rfl] at hask'; omega
    have hfit : ¬ (base < 0 ∨ (n : Int) - sizeN t < base) := by
      intro h
      rw [hsr, if_neg (by simp), if_pos h] at hask'; omega
    have hsr' := hsr
    rw [Bool.and_eq_true] at hsr'
    obtain ⟨hb, hp⟩ := bmB_ok hbp hsr'.1
    obtain ⟨hr, hq⟩ := bmB_ok hbq hsr'.2
    obtain ⟨b, rfl⟩ : ∃ b : Nat, base = (b : Int) := ⟨_, (Int.toNat_of_nonneg (by omega)).symm⟩
    have hs0 : sizeN t = 513 ∨ sizeN t = 129 := by unfold sizeN; split <;> simp
    have hb0 : b + (sizeN t).toNat ≤ (encNew 0 (zeros n)).st.length := by rw [hst]; omega
    obtain ⟨k1, k2, k3, k4⟩ := encMv hN hb0 (refEv_ok (dx := dx) (dy := dy) (ty := ty) (w := w) (v := v) (w' := w') (v' := v') ho.1 hp hq) (Nat.le_trans (refEv_len hb.1.2.1 hb.1.2.2.2.1) (by omega))
    have h0 : (encNew 0 (zeros n)).out.length = 0 := by simp [encNew]
    have c1 := c_p8Put (encNew 0 (zeros n)) hN b t dx dy ty kd ho w v w' v' p q hb hr hp hq hsr'.1 hsr'.2 (by rw [hst]; omega) (by rw [hst]; omega) (by omega) _ rfl
    have c2 := c_r8Put (encNew 0 (zeros n)) hN b t dx dy ty kd ho w v w' v' p q hb hr hp hq hsr'.1 hsr'.2 (by rw [hst]; omega) (by rw [hst]; omega) (by omega) _ rfl
    generalize encAll (encNew 0 (zeros n)) (mv b (refEv t dx dy ty w v p w' v' q)) = E at *
    simp (maxSteps := 2000000) only [↓vP0, vQ0, vT0, simprocAttr]
    refine callK_det (c1) [7, 8, 9, 0, 1] ?_ ?_ ?_ rfl (by simp [pEncL, pEncC_rens, pEncC_okIns, pEncC_inj, encNew, ints_nil]) ?_
    · simp [ren, rens, sg, sig, okIn, okIns, exK, leK, leF, leV, matK, objM, renO, roSame, lh, born, AObj.born, AObj.live, injOk, kindOf, rens_ints, okIns_ints, List.range, List.range.loop, mrg, mset, pEncL, pEncC_rens, pEncC_okIns, pEncC_inj, encNew, ints_nil]
    · simp [ren, rens, sg, sig, okIn, okIns, exK, leK, leF, leV, matK, objM, renO, roSame, lh, born, AObj.born, AObj.live, injOk, kindOf, rens_ints, okIns_ints, List.range, List.range.loop, mrg, mset, pEncL, pEncC_rens, pEncC_okIns, pEncC_inj, encNew, ints_nil]
    · simp [ren, rens, sg, sig, okIn, okIns, exK, leK, leF, leV, matK, objM, renO, roSame, lh, born, AObj.born, AObj.live, injOk, kindOf, rens_ints, okIns_ints, List.range, List.range.loop, mrg, mset, pEncL, pEncC_rens, pEncC_okIns, pEncC_inj, encNew, ints_nil]
    simp only [pEncL]
    simp (maxSteps := 2000000) only [↓vP0, vQ0, vT0, simprocAttr, pEncC_rens]
    refine callK_det (c2) [14, 15, 16, 0, 1] ?_ ?_ ?_ rfl (by simp [rEncL, rEncC_rens, rEncC_okIns, rEncC_inj, encNew, ints_nil]) ?_
    · simp [ren, rens, sg, sig, okIn, okIns, exK, leK, leF, leV, matK, objM, renO, roSame, lh, born, AObj.born, AObj.live, injOk, kindOf, rens_ints, okIns_ints, List.range, List.range.loop, mrg, mset, rEncL, rEncC_rens, rEncC_okIns, rEncC_inj, encNew, ints_nil]
    · simp [ren, rens, sg, sig, okIn, okIns, exK, leK, leF, leV, matK, objM, renO, roSame, lh, born, AObj.born, AObj.live, injOk, kindOf, rens_ints, okIns_ints, List.range, List.range.loop, mrg, mset, rEncL, rEncC_rens, rEncC_okIns, rEncC_inj, encNew, ints_nil]
    · simp [ren, rens, sg, sig, okIn, okIns, exK, leK, leF, leV, matK, objM, renO, roSame, lh, born, AObj.born, AObj.live, injOk, kindOf, rens_ints, okIns_ints, List.range, List.range.loop, mrg, mset, rEncL, rEncC_rens, rEncC_okIns, rEncC_inj, encNew, ints_nil]
    simp only [rEncL]
    have e0 : ∀ z : Int, (z != z) = false := fun z => by simp
    simp (maxSteps := 2000000) only [↓vP0, vQ0, vT0, simprocAttr, e0, rEncC_rens]
    refine callK_det (c_pEnd E k1 (by omega)) [7, 8, 21] ?_ ?_ ?_ rfl (by simp [pEncR, pEncC_rens, pEncC_okIns, pEncC_inj]) ?_
    · simp [ren, rens, sg, sig, okIn, okIns, exK, leK, leF, leV, matK, objM, renO, roSame, lh, born, AObj.born, AObj.live, injOk, kindOf, rens_ints, okIns_ints, List.range, List.range.loop, mrg, mset, pEncR, pEncC_rens, pEncC_okIns, pEncC_inj]
    · simp [ren, rens, sg, sig, okIn, okIns, exK, leK, leF, leV, matK, objM, renO, roSame, lh, born, AObj.born, AObj.live, injOk, kindOf, rens_ints, okIns_ints, List.range, List.range.loop, mrg, mset, pEncR, pEncC_rens, pEncC_okIns, pEncC_inj]
    · simp [ren, rens, sg, sig, okIn, okIns, exK, leK, leF, leV, matK, objM, renO, roSame, lh, born, AObj.born, AObj.live, injOk, kindOf, rens_ints, okIns_ints, List.range, List.range.loop, mrg, mset, pEncR, pEncC_rens, pEncC_okIns, pEncC_inj]
    simp only [pEncR]
    simp (maxSteps := 2000000) only [↓vP0, vQ0, vT0, simprocAttr]
    refine callK_det (c_rEnd E k1 (by omega)) [14, 15, 22] ?_ ?_ ?_ rfl (by simp [rEncR, rEncC_rens, rEncC_okIns, rEncC_inj]) ?_
    · simp [ren, rens, sg, sig, okIn, okIns, exK, leK, leF, leV, matK, objM, renO, roSame, lh, born, AObj.born, AObj.live, injOk, kindOf, rens_ints, okIns_ints, List.range, List.range.loop, mrg, mset, rEncR, rEncC_rens, rEncC_okIns, rEncC_inj]
    · simp [ren, rens, sg, sig, okIn, okIns, exK, leK, leF, leV, matK, objM, renO, roSame, lh, born, AObj.born, AObj.live, injOk, kindOf, rens_ints, okIns_ints, List.range, List.range.loop, mrg, mset, rEncR, rEncC_rens, rEncC_okIns, rEncC_inj]
    · simp [ren, rens, sg, sig, okIn, okIns, exK, leK, leF, leV, matK, objM, renO, roSame, lh, born, AObj.born, AObj.live, injOk, kindOf, rens_ints, okIns_ints, List.range, List.range.loop, mrg, mset, rEncR, rEncC_rens, rEncC_okIns, rEncC_inj]
    simp only [rEncR]
    simp (maxSteps := 2000000) only [↓vP0, vQ0, vT0, simprocAttr]
    have hfl : E.fin.length ≤ 9223372036854775807 := by
      rw [Enc.fin, List.length_append]
      have : ∀ hi n, (endL hi n).length ≤ 4 := fun hi n => by simp [endL]; omega
      have := this E.hi (endN E.lo E.hi)
      omega
    generalize E.fin = F at *
    refine callK_read (c_SameBytes F F hfl hfl) [23, 24] ?_ ?_ ?_ rfl ?_
    · simp [ren, rens, sg, sig, okIn, okIns, exK, leK, leF, leV, matK, objM, renO, roSame, lh, born, AObj.born, AObj.live, injOk, kindOf, rens_ints, okIns_ints, List.range, List.range.loop, mrg, mset]
    · simp [ren, rens, sg, sig, okIn, okIns, exK, leK, leF, leV, matK, objM, renO, roSame, lh, born, AObj.born, AObj.live, injOk, kindOf, rens_ints, okIns_ints, List.range, List.range.loop, mrg, mset]
    · simp [ren, rens, sg, sig, okIn, okIns, exK, leK, leF, leV, matK, objM, renO, roSame, lh, born, AObj.born, AObj.live, injOk, kindOf, rens_ints, okIns_ints, List.range, List.range.loop, mrg, mset]
    simp (maxSteps := 2000000) only [↓vP0, vQ0, vT0, simprocAttr, dT (show F = F from rfl)]
    refine callK_det (cp) [11, 12, 13, 1] ?_ ?_ ?_ rfl (by simp [getL, pDecL, pDecC_rens, pDecC_okIns, pDecC_inj, hsD, hcD, ints_nil]) ?_
    · simp [ren, rens, sg, sig, okIn, okIns, exK, leK, leF, leV, matK, objM, renO, roSame, lh, born, AObj.born, AObj.live, injOk, kindOf, rens_ints, okIns_ints, List.range, List.range.loop, mrg, mset, getL, pDecL, pDecC_rens, pDecC_okIns, pDecC_inj, hsD, hcD, ints_nil]
    · simp [ren, rens, sg, sig, okIn, okIns, exK, leK, leF, leV, matK, objM, renO, roSame, lh, born, AObj.born, AObj.live, injOk, kindOf, rens_ints, okIns_ints, List.range, List.range.loop, mrg, mset, getL, pDecL, pDecC_rens, pDecC_okIns, pDecC_inj, hsD, hcD, ints_nil]
    · simp [ren, rens, sg, sig, okIn, okIns, exK, leK, leF, leV, matK, objM, renO, roSame, lh, born, AObj.born, AObj.live, injOk, kindOf, rens_ints, okIns_ints, List.range, List.range.loop, mrg, mset, getL, pDecL, pDecC_rens, pDecC_okIns, pDecC_inj, hsD, hcD, ints_nil]
    simp only [getL, pDecL]
    simp (maxSteps := 2000000) only [↓vP0, vQ0, vT0, simprocAttr, pDecC_rens]
    refine callK_det (cr) [18, 19, 20, 1] ?_ ?_ ?_ rfl (by simp [rDecL, rDecC_rens, rDecC_okIns, rDecC_inj, hsD, hcD, ints_nil]) ?_
    · simp [ren, rens, sg, sig, okIn, okIns, exK, leK, leF, leV, matK, objM, renO, roSame, lh, born, AObj.born, AObj.live, injOk, kindOf, rens_ints, okIns_ints, List.range, List.range.loop, mrg, mset, rDecL, rDecC_rens, rDecC_okIns, rDecC_inj, hsD, hcD, ints_nil]
    · simp [ren, rens, sg, sig, okIn, okIns, exK, leK, leF, leV, matK, objM, renO, roSame, lh, born, AObj.born, AObj.live, injOk, kindOf, rens_ints, okIns_ints, List.range, List.range.loop, mrg, mset, rDecL, rDecC_rens, rDecC_okIns, rDecC_inj, hsD, hcD, ints_nil]
    · simp [ren, rens, sg, sig, okIn, okIns, exK, leK, leF, leV, matK, objM, renO, roSame, lh, born, AObj.born, AObj.live, injOk, kindOf, rens_ints, okIns_ints, List.range, List.range.loop, mrg, mset, rDecL, rDecC_rens, rDecC_okIns, rDecC_inj, hsD, hcD, ints_nil]
    simp only [rDecL]
    simp (maxSteps := 2000000) only [↓vP0, vQ0, vT0, simprocAttr, rDecC_rens]
    refine callK_read (c_p8GetNil b t dx dy ty kd w v w' v' q) [1] ?_ ?_ ?_ rfl ?_
    · simp [ren, rens, sg, sig, okIn, okIns, exK, leK, leF, leV, matK, objM, renO, roSame, lh, born, AObj.born, AObj.live, injOk, kindOf, rens_ints, okIns_ints, List.range, List.range.loop, mrg, mset]
    · simp [ren, rens, sg, sig, okIn, okIns, exK, leK, leF, leV, matK, objM, renO, roSame, lh, born, AObj.born, AObj.live, injOk, kindOf, rens_ints, okIns_ints, List.range, List.range.loop, mrg, mset]
    · simp [ren, rens, sg, sig, okIn, okIns, exK, leK, leF, leV, matK, objM, renO, roSame, lh, born, AObj.born, AObj.live, injOk, kindOf, rens_ints, okIns_ints, List.range, List.range.loop, mrg, mset]
    have e2 : ∀ z : Int, (z == z) = true := fun z => by simp
    simp (maxSteps := 2000000) only [↓vP0, vQ0, vT0, simprocAttr, e2]
    generalize gP t dx dy ty kd (b : Int) w v w' v' q (decNew 0 (zeros n) Z) = P at *
    generalize gW t dx dy ty kd (b : Int) w v w' v' q (decNew 0 (zeros n) Z) = W at *
    generalize gV t dx dy ty kd (b : Int) w v w' v' q (decNew 0 (zeros n) Z) = V at *
    refine callK_read (c_SameBitmap W V W V P P hgp hgp) [25, 27] ?_ ?_ ?_ rfl ?_
    · simp [ren, rens, sg, sig, okIn, okIns, exK, leK, leF, leV, matK, objM, renO, roSame, lh, born, AObj.born, AObj.live, injOk, kindOf, rens_ints, okIns_ints, List.range, List.range.loop, mrg, mset]
    · simp [ren, rens, sg, sig, okIn, okIns, exK, leK, leF, leV, matK, objM, renO, roSame, lh, born, AObj.born, AObj.live, injOk, kindOf, rens_ints, okIns_ints, List.range, List.range.loop, mrg, mset]
    · simp [ren, rens, sg, sig, okIn, okIns, exK, leK, leF, leV, matK, objM, renO, roSame, lh, born, AObj.born, AObj.live, injOk, kindOf, rens_ints, okIns_ints, List.range, List.range.loop, mrg, mset]
    simp (maxSteps := 2000000) only [↓vP0, vQ0, vT0, simprocAttr, dT (show W = W ∧ V = V ∧ P = P from ⟨rfl, rfl, rfl⟩)]
    refine callK_read (c_p8PutNil b t dx dy ty kd w v w' v' p q) [0, 1] ?_ ?_ ?_ rfl ?_
    · simp [ren, rens, sg, sig, okIn, okIns, exK, leK, leF, leV, matK, objM, renO, roSame, lh, born, AObj.born, AObj.live, injOk, kindOf, rens_ints, okIns_ints, List.range, List.range.loop, mrg, mset]
    · simp [ren, rens, sg, sig, okIn, okIns, exK, leK, leF, leV, matK, objM, renO, roSame, lh, born, AObj.born, AObj.live, injOk, kindOf, rens_ints, okIns_ints, List.range, List.range.loop, mrg, mset]
    · simp [ren, rens, sg, sig, okIn, okIns, exK, leK, leF, leV, matK, objM, renO, roSame, lh, born, AObj.born, AObj.live, injOk, kindOf, rens_ints, okIns_ints, List.range, List.range.loop, mrg, mset]
    simp (maxSteps := 2000000) only [↓vP0, vQ0, vT0, simprocAttr]
    refine callK_pure (c_Awake) rfl rfl ?_
    simp (maxSteps := 2000000) only [↓vP0, vQ0, vT0, simprocAttr]
    exact exit_keep (L1 := pix2L p q) ⟨rfl, rfl⟩ trivial hkeep
end Go.Proofs.Ytbfefpkhalegmaa
