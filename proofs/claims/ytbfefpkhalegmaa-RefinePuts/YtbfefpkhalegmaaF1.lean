/- Contracts: sizes of bitmaps, rows of pixels, options of refine. -/
import Derived.Test.YtbfefpkhalegmaaN1
import Derived.KernelRfl

set_option linter.unusedVariables false
set_option linter.unusedSimpArgs false
namespace Go.Proofs.Ytbfefpkhalegmaa
open Go
set_option maxHeartbeats 4000000
set_option maxRecDepth 20000

def sizeB (w h : Int) : Bool := decide (0 ≤ w) && decide (w ≤ 200) && decide (0 ≤ h) && decide (h ≤ 200) && decide (w * h ≤ 8192)
abbrev SizeOk (w h : Int) : Prop := 0 ≤ w ∧ w ≤ 200 ∧ 0 ≤ h ∧ h ≤ 200 ∧ w * h ≤ 8192
theorem sizeB_iff (w h : Int) : sizeB w h = true ↔ SizeOk w h := by simp [sizeB, and_assoc]
theorem area_bd {w h : Int} (a0 : 0 ≤ w) (a1 : w ≤ 200) (a2 : 0 ≤ h) (a3 : h ≤ 200) : 0 ≤ w * h ∧ w * h ≤ 40000 := by
  refine ⟨Int.mul_nonneg a0 a2, ?_⟩
  calc w * h ≤ 200 * 200 := Int.mul_le_mul a1 a3 a2 (by omega)
    _ = 40000 := by omega
theorem dT {p : Prop} [Decidable p] (h : p) : decide p = true := decide_eq_true h
theorem dN {p : Prop} [Decidable p] (h : ¬ p) : decide p = false := decide_eq_false h

theorem c_rIsSize (w h : Int) : LCall Try.prog 79 [.int .i64 w, .int .i64 h] [] fun r L => r = .bool (sizeB w h) ∧ L = [] := by
  refine lcall_of_vc tyok Try.func79 rfl (by rfl) Try.results79 Try.ntmps79 ?_; intro C hD
  by_cases a0 : 0 ≤ w
  · by_cases a1 : w ≤ 200
    · by_cases a2 : 0 ≤ h
      · by_cases a3 : h ≤ 200
        · have hm := area_bd a0 a1 a2 a3
          simp (maxSteps := 2000000) only [↓vP0, vQ0, vT0, simprocAttr, dT a0, dT a1, dT a2, dT a3]
          simp (disch := omega) only [wr64, wru64, wru8, tdv, tmd, fdv]
          exact exit_keep (L1 := []) ⟨by simp only [sizeB, dT a0, dT a1, dT a2, dT a3, Bool.true_and], rfl⟩ trivial trivial
        · simp (maxSteps := 2000000) only [↓vP0, vQ0, vT0, simprocAttr, dT a0, dT a1, dT a2, dN a3]
          exact exit_keep (L1 := []) ⟨by simp only [sizeB, dT a0, dT a1, dT a2, dN a3, Bool.true_and, Bool.false_and, Bool.and_false], rfl⟩ trivial trivial
      · simp (maxSteps := 2000000) only [↓vP0, vQ0, vT0, simprocAttr, dT a0, dT a1, dN a2]
        exact exit_keep (L1 := []) ⟨by simp only [sizeB, dT a0, dT a1, dN a2, Bool.true_and, Bool.false_and, Bool.and_false], rfl⟩ trivial trivial
    · simp (maxSteps := 2000000) only [↓vP0, vQ0, vT0, simprocAttr, dT a0, dN a1]
      exact exit_keep (L1 := []) ⟨by simp only [sizeB, dT a0, dN a1, Bool.true_and, Bool.false_and, Bool.and_false], rfl⟩ trivial trivial
  · simp (maxSteps := 2000000) only [↓vP0, vQ0, vT0, simprocAttr, dN a0]
    exact exit_keep (L1 := []) ⟨by simp only [sizeB, dN a0, Bool.true_and, Bool.false_and, Bool.and_false], rfl⟩ trivial trivial

theorem c_bfits (w h : Int) : LCall Try.prog 122 [.int .i64 w, .int .i64 h] [] fun r L => r = .bool (sizeB w h) ∧ L = [] := by
  refine lcall_of_vc tyok Try.func122 rfl (by rfl) Try.results122 Try.ntmps122 ?_; intro C hD
  by_cases a0 : 0 ≤ w
  · by_cases a2 : 0 ≤ h
    · by_cases a1 : w ≤ 200
      · by_cases a3 : h ≤ 200
        · have hm := area_bd a0 a1 a2 a3
          simp (maxSteps := 2000000) only [↓vP0, vQ0, vT0, simprocAttr, dT a0, dT a1, dT a2, dT a3]
          simp (disch := omega) only [wr64, wru64, wru8, tdv, tmd, fdv]
          exact exit_keep (L1 := []) ⟨by simp only [sizeB, dT a0, dT a1, dT a2, dT a3, Bool.true_and], rfl⟩ trivial trivial
        · simp (maxSteps := 2000000) only [↓vP0, vQ0, vT0, simprocAttr, dT a0, dT a1, dT a2, dN a3]
          exact exit_keep (L1 := []) ⟨by simp only [sizeB, dT a0, dT a1, dT a2, dN a3, Bool.true_and, Bool.false_and, Bool.and_false], rfl⟩ trivial trivial
      · simp (maxSteps := 2000000) only [↓vP0, vQ0, vT0, simprocAttr, dT a0, dT a2, dN a1]
        exact exit_keep (L1 := []) ⟨by simp only [sizeB, dT a0, dN a1, Bool.true_and, Bool.false_and, Bool.and_false], rfl⟩ trivial trivial
    · simp (maxSteps := 2000000) only [↓vP0, vQ0, vT0, simprocAttr, dT a0, dN a2]
      exact exit_keep (L1 := []) ⟨by simp only [sizeB, dT a0, dN a2, Bool.true_and, Bool.false_and, Bool.and_false], rfl⟩ trivial trivial
  · simp (maxSteps := 2000000) only [↓vP0, vQ0, vT0, simprocAttr, dN a0]
    exact exit_keep (L1 := []) ⟨by simp only [sizeB, dN a0, Bool.true_and, Bool.false_and, Bool.and_false], rfl⟩ trivial trivial

theorem c_r8size (t : Int) : LCall Try.prog 76 [.int .i64 t] [] fun r L => r = .int .i64 (if t = 0 then 513 else 129) ∧ L = [] := by
  refine lcall_of_vc tyok Try.func76 rfl (by rfl) Try.results76 Try.ntmps76 ?_; intro C hD
  simp (maxSteps := 2000000) only [↓vP0, vQ0, vT0, simprocAttr]
  (with_reducible first | refine condK_dec (fun h => ?_) (fun h => ?_) | refine condK_beq (fun h => ?_) (fun h => ?_) | refine condK_bne (fun h => ?_) (fun h => ?_) | refine condK_intro (fun h => ?_) (fun h => ?_))
  · simp (maxSteps := 2000000) only [↓vP0, vQ0, vT0, simprocAttr]
    exact exit_keep (L1 := []) ⟨by rw [if_pos h], rfl⟩ trivial trivial
  · simp (maxSteps := 2000000) only [↓vP0, vQ0, vT0, simprocAttr]
    exact exit_keep (L1 := []) ⟨by rw [if_neg h], rfl⟩ trivial trivial

theorem c_r8Size (t : Int) : LCall Try.prog 25 [.int .i64 t] [] fun r L => r = .tup [.int .i64 (if t = 0 then 513 else if t = 1 then 129 else 0), .int .i64 (if t = 0 ∨ t = 1 then 0 else 2)] ∧ L = [] := by
  refine lcall_of_vc tyok Try.func25 rfl (by rfl) Try.results25 Try.ntmps25 ?_; intro C hD
  by_cases h0 : t < 0
  · simp (maxSteps := 2000000) only [↓vP0, vQ0, vT0, simprocAttr, dT h0]
    exact exit_keep (L1 := []) ⟨by rw [if_neg (by omega), if_neg (by omega), if_neg (by omega)], rfl⟩ ⟨trivial, trivial, trivial⟩ trivial
  · by_cases h1 : 1 < t
    · simp (maxSteps := 2000000) only [↓vP0, vQ0, vT0, simprocAttr, dN h0, dT h1]
      exact exit_keep (L1 := []) ⟨by rw [if_neg (by omega), if_neg (by omega), if_neg (by omega)], rfl⟩ ⟨trivial, trivial, trivial⟩ trivial
    · simp (maxSteps := 2000000) only [↓vP0, vQ0, vT0, simprocAttr, dN h0, dN h1]
      refine callK_pure (c_r8size t) rfl rfl ?_
      simp (maxSteps := 2000000) only [↓vP0, vQ0, vT0, simprocAttr]
      refine exit_keep (L1 := []) ⟨?_, rfl⟩ ⟨trivial, trivial, trivial⟩ trivial
      by_cases e : t = 0
      · subst e; rfl
      · have : t = 1 := by omega
        subst this; rfl

def freshN (t : Int) : List Int := if t = 0 then [-1, -1, 0, -1, 1, -1, -1, 0] else [0, -1, -1, 0]
theorem c_fresh (t : Int) : LCall Try.prog 120 [.int .i64 t] [] fun r L =>
    r = .slice 0 0 (if t = 0 then 4 else 2) ∧ L = [.own (ints .i64 (freshN t)) 162] := by
  refine lcall_of_vc tyok Try.func120 rfl (by rfl) Try.results120 Try.ntmps120 ?_; intro C hD
  simp (maxSteps := 2000000) only [↓vP0, vQ0, vT0, simprocAttr]
  (with_reducible first | refine condK_dec (fun h => ?_) (fun h => ?_) | refine condK_beq (fun h => ?_) (fun h => ?_) | refine condK_bne (fun h => ?_) (fun h => ?_) | refine condK_intro (fun h => ?_) (fun h => ?_))
  · subst h
    simp (maxSteps := 2000000) only [↓vP0, vQ0, vT0, simprocAttr]
    refine exit_of [0] (.slice 0 0 4) [.own (ints .i64 [-1, -1, 0, -1, 1, -1, -1, 0]) 162] ⟨rfl, rfl⟩ ?_ ?_ rfl ?_ ?_
    all_goals simp [ren, rens, sg, sig, okIn, okIns, exK, leK, leF, leV, matK, objM, renO, roSame, lh, born, AObj.born, AObj.live, injOk, kindOf, rens_ints, okIns_ints, List.range, List.range.loop, mrg, mset, ints]
  · simp (maxSteps := 2000000) only [↓vP0, vQ0, vT0, simprocAttr]
    refine exit_of [0] (.slice 0 0 2) [.own (ints .i64 [0, -1, -1, 0]) 162] ⟨by rw [if_neg h], by rw [freshN, if_neg h]⟩ ?_ ?_ rfl ?_ ?_
    all_goals simp [ren, rens, sg, sig, okIn, okIns, exK, leK, leF, leV, matK, objM, renO, roSame, lh, born, AObj.born, AObj.live, injOk, kindOf, rens_ints, okIns_ints, List.range, List.range.loop, mrg, mset, ints]
theorem c_beside : LCall Try.prog 123 [] [] fun r L =>
    r = .slice 0 0 5 ∧ L = [.own (ints .i64 [0, 0, -1, 0, 1, 0, 0, -1, 0, 1]) 162] := by
  refine lcall_of_vc tyok Try.func123 rfl (by rfl) Try.results123 Try.ntmps123 ?_; intro C hD
  simp (maxSteps := 2000000) only [↓vP0, vQ0, vT0, simprocAttr]
  refine exit_of [0] (.slice 0 0 5) [.own (ints .i64 [0, 0, -1, 0, 1, 0, 0, -1, 0, 1]) 162] ⟨rfl, rfl⟩ ?_ ?_ rfl ?_ ?_
  all_goals simp [ren, rens, sg, sig, okIn, okIns, exK, leK, leF, leV, matK, objM, renO, roSame, lh, born, AObj.born, AObj.live, injOk, kindOf, rens_ints, okIns_ints, List.range, List.range.loop, mrg, mset, ints]
theorem c_contexts (t : Int) (ht : t = 0 ∨ t = 1) : LCall Try.prog 75 [.int .i64 t] [] fun r L => r = .int .i64 (if t = 0 then 512 else 128) ∧ L = [] := by
  rcases ht with rfl | rfl
  · refine lcall_of_vc tyok Try.func75 rfl (by rfl) Try.results75 Try.ntmps75 ?_; intro C hD
    simp (maxSteps := 2000000) only [↓vP0, vQ0, vT0, simprocAttr]
    refine callK_det (c_fresh 0) [] ?_ ?_ ?_ rfl (by simp) ?_
    · simp [ren, rens, sg, sig, okIn, okIns, exK, leK, leF, leV, matK, objM, renO, roSame, lh, born, AObj.born, AObj.live, injOk, kindOf, rens_ints, okIns_ints, List.range, List.range.loop, mrg, mset]
    · simp [ren, rens, sg, sig, okIn, okIns, exK, leK, leF, leV, matK, objM, renO, roSame, lh, born, AObj.born, AObj.live, injOk, kindOf, rens_ints, okIns_ints, List.range, List.range.loop, mrg, mset]
    · simp [ren, rens, sg, sig, okIn, okIns, exK, leK, leF, leV, matK, objM, renO, roSame, lh, born, AObj.born, AObj.live, injOk, kindOf, rens_ints, okIns_ints, List.range, List.range.loop, mrg, mset]
    simp (maxSteps := 2000000) only [↓vP0, vQ0, vT0, simprocAttr]
    exact exit_keep (L1 := []) ⟨rfl, rfl⟩ trivial trivial
  · refine lcall_of_vc tyok Try.func75 rfl (by rfl) Try.results75 Try.ntmps75 ?_; intro C hD
    simp (maxSteps := 2000000) only [↓vP0, vQ0, vT0, simprocAttr]
    refine callK_det (c_fresh 1) [] ?_ ?_ ?_ rfl (by simp) ?_
    · simp [ren, rens, sg, sig, okIn, okIns, exK, leK, leF, leV, matK, objM, renO, roSame, lh, born, AObj.born, AObj.live, injOk, kindOf, rens_ints, okIns_ints, List.range, List.range.loop, mrg, mset]
    · simp [ren, rens, sg, sig, okIn, okIns, exK, leK, leF, leV, matK, objM, renO, roSame, lh, born, AObj.born, AObj.live, injOk, kindOf, rens_ints, okIns_ints, List.range, List.range.loop, mrg, mset]
    · simp [ren, rens, sg, sig, okIn, okIns, exK, leK, leF, leV, matK, objM, renO, roSame, lh, born, AObj.born, AObj.live, injOk, kindOf, rens_ints, okIns_ints, List.range, List.range.loop, mrg, mset]
    simp (maxSteps := 2000000) only [↓vP0, vQ0, vT0, simprocAttr]
    exact exit_keep (L1 := []) ⟨rfl, rfl⟩ trivial trivial
theorem c_pSize (t : Int) : LCall Try.prog 24 [.int .i64 t] [] fun r L => r = .tup [.int .i64 (if t = 0 then 513 else if t = 1 then 129 else 0), .int .i64 (if t = 0 ∨ t = 1 then 0 else 2)] ∧ L = [] := by
  refine lcall_of_vc tyok Try.func24 rfl (by rfl) Try.results24 Try.ntmps24 ?_; intro C hD
  by_cases h0 : t = 0
  · subst h0
    simp (maxSteps := 2000000) only [↓vP0, vQ0, vT0, simprocAttr]
    refine callK_pure (c_contexts 0 (.inl rfl)) rfl rfl ?_
    simp (maxSteps := 2000000) only [↓vP0, vQ0, vT0, simprocAttr]
    exact exit_keep (L1 := []) ⟨rfl, rfl⟩ ⟨trivial, trivial, trivial⟩ trivial
  · by_cases h1 : t = 1
    · subst h1
      simp (maxSteps := 2000000) only [↓vP0, vQ0, vT0, simprocAttr]
      refine callK_pure (c_contexts 1 (.inr rfl)) rfl rfl ?_
      simp (maxSteps := 2000000) only [↓vP0, vQ0, vT0, simprocAttr]
      exact exit_keep (L1 := []) ⟨rfl, rfl⟩ ⟨trivial, trivial, trivial⟩ trivial
    · have e0 : (t != 0) = true := by simpa using h0
      have e1 : (t != 1) = true := by simpa using h1
      simp (maxSteps := 2000000) only [↓vP0, vQ0, vT0, simprocAttr, e0, e1]
      exact exit_keep (L1 := []) ⟨by rw [if_neg h0, if_neg h1, if_neg (by omega)], rfl⟩ ⟨trivial, trivial, trivial⟩ trivial

abbrev pixL (p : List Int) : List AObj := [.ro (ints .u8 p) 5]
def rowB (p : List Int) : Bool := p.all fun x => decide (x ≤ 1)
theorem pix_keep (p : List Int) : keepL 1 (pixL p) (pixL p) := ⟨⟨rfl, by rw [okIns_ints]; trivial⟩, trivial⟩
theorem all_take_succ {p : List Int} {i : Nat} {f : Int → Bool} (hi : i < p.length) (h : (p.take i).all f = true) (hx : f (p.getD i 0) = true) : (p.take (i + 1)).all f = true := by
  rw [List.take_succ_eq_append_getElem hi, List.all_append, h]
  have e1 : p.getD i 0 = p[i] := by simp [List.getD_eq_getElem?_getD, List.getElem?_eq_getElem hi]
  rw [← e1]; simp only [List.all_cons, List.all_nil, hx, Bool.and_true]
theorem all_false {p : List Int} {i : Nat} {f : Int → Bool} (hi : i < p.length) (hx : f (p.getD i 0) = false) : p.all f = false := by
  rw [List.all_eq_false]
  have e1 : p.getD i 0 = p[i] := by simp [List.getD_eq_getElem?_getD, List.getElem?_eq_getElem hi]
  exact ⟨p[i], List.getElem_mem hi, by rw [← e1, hx]; simp⟩
theorem c_rIsRow (p : List Int) (hp : p.length ≤ 9223372036854775807) : LCall Try.prog 80 [.slice 0 0 p.length] (pixL p) fun r L => r = .bool (rowB p) ∧ L = pixL p := by
  refine lcall_of_vc tyok Try.func80 rfl (by rfl) Try.results80 Try.ntmps80 ?_; intro C hD
  simp (maxSteps := 2000000) only [↓vP0, vQ0, vT0, simprocAttr]
  refine loopK_of tyok hD (α := Nat) (fun i => i ≤ p.length ∧ (p.take i).all (fun x => decide (x ≤ 1)) = true) (fun i => p.length - i) (fun i => [.junk, .junk, .junk, .junk, .junk, .slice 0 0 p.length, .int .i64 p.length, .int .i64 i, .junk, .junk, .junk, .junk, .junk, .junk])
    (fun i => pixL p) 0 ⟨by omega, by simp⟩ ?_ ?_
  · (refine ⟨by simp [leF, leV] <;> rfl, ⟨_, by first | rfl | exact (List.append_nil _).symm⟩, by simp, by simp [okIns, okIn, okIns_ints], by simp [AObj.born, okIns, okIn, AObj.cells, okIns_ints]⟩)
  rintro i ⟨hi, htk⟩
  simp (maxSteps := 2000000) only [↓vP0, vQ0, vT0, simprocAttr]
  (with_reducible first | refine condK_dec (fun h => ?_) (fun h => ?_) | refine condK_beq (fun h => ?_) (fun h => ?_) | refine condK_bne (fun h => ?_) (fun h => ?_) | refine condK_intro (fun h => ?_) (fun h => ?_))
  · have hil : i < p.length := by omega
    have g1 := ints_get .u8 p i hil
    simp (maxSteps := 2000000) only [↓vP0, vQ0, vT0, simprocAttr]
    refine chk_intro (by omega) ?_
    simp (maxSteps := 2000000) only [↓vP0, vQ0, vT0, simprocAttr, g1]
    (with_reducible first | refine condK_dec (fun h => ?_) (fun h => ?_) | refine condK_beq (fun h => ?_) (fun h => ?_) | refine condK_bne (fun h => ?_) (fun h => ?_) | refine condK_intro (fun h => ?_) (fun h => ?_))
    · simp (maxSteps := 2000000) only [↓vP0, vQ0, vT0, simprocAttr]
      exact exit_keep0 ⟨by rw [rowB, all_false hil (dN (by omega))], rfl⟩ trivial (pix_keep p)
    · simp (maxSteps := 2000000) only [↓vP0, vQ0, vT0, simprocAttr]
      simp (disch := omega) only [wr64, wru64, wru8, tdv, tmd, fdv]
      refine ⟨i + 1, ⟨by omega, all_take_succ hil htk (dT (by omega))⟩, by omega, ?_⟩
      simp only [Int.natCast_add, Int.cast_ofNat_Int]
      (refine ⟨by simp [leF, leV] <;> rfl, ⟨_, by first | rfl | exact (List.append_nil _).symm⟩, by simp, by simp [okIns, okIn, okIns_ints], by simp [AObj.born, okIns, okIn, AObj.cells, okIns_ints]⟩)
  · have hil : i = p.length := by omega
    subst hil
    rw [List.take_length] at htk
    simp (maxSteps := 2000000) only [↓vP0, vQ0, vT0, simprocAttr]
    exact exit_keep0 ⟨by rw [rowB, htk], rfl⟩ trivial (pix_keep p)
end Go.Proofs.Ytbfefpkhalegmaa

set_option linter.unusedVariables false
set_option linter.unusedSimpArgs false
namespace Go.Proofs.Ytbfefpkhalegmaa
open Go
set_option maxHeartbeats 4000000
set_option maxRecDepth 20000

abbrev optV (t dx dy : Int) (ty : Bool) (kd : Int) : AV := .agg [.int .i64 t, .int .i64 dx, .int .i64 dy, .bool ty, .int .i64 kd]
abbrev I64 (n : Int) : Prop := -9223372036854775808 ≤ n ∧ n ≤ 9223372036854775807
abbrev OptOk (t dx dy kd : Int) : Prop := (t = 0 ∨ t = 1) ∧ (kd = 0 ∨ kd = 1) ∧ -200 ≤ dx ∧ dx ≤ 200 ∧ -200 ≤ dy ∧ dy ≤ 200
theorem ge0 {n : Int} : (n = 0 ∨ n = 1) ↔ (0 ≤ n ∧ n ≤ 1) := by omega
theorem c_rRefValid (t dx dy : Int) (ty : Bool) (kd : Int) : LCall Try.prog 27 [optV t dx dy ty kd] [] fun r L => r = .bool (decide (OptOk t dx dy kd)) ∧ L = [] := by
  refine lcall_of_vc tyok Try.func27 rfl (by rfl) Try.results27 Try.ntmps27 ?_; intro C hD
  by_cases a0 : -200 ≤ dx
  · by_cases a1 : dx ≤ 200
    · by_cases a2 : -200 ≤ dy
      · by_cases a3 : dy ≤ 200
        · by_cases a4 : 0 ≤ t
          · by_cases a5 : t ≤ 1
            · by_cases a6 : 0 ≤ kd
              · simp (maxSteps := 2000000) only [↓vP0, vQ0, vT0, simprocAttr, dT a0, dT a1, dT a2, dT a3, dT a4, dT a5, dT a6]
                refine exit_keep (L1 := []) ⟨?_, rfl⟩ trivial trivial
                by_cases a7 : kd ≤ 1
                · rw [dT a7, dT (by omega)]
                · rw [dN a7, dN (by omega)]
              · simp (maxSteps := 2000000) only [↓vP0, vQ0, vT0, simprocAttr, dT a0, dT a1, dT a2, dT a3, dT a4, dT a5, dN a6]
                exact exit_keep (L1 := []) ⟨by rw [dN (by omega)], rfl⟩ trivial trivial
            · simp (maxSteps := 2000000) only [↓vP0, vQ0, vT0, simprocAttr, dT a0, dT a1, dT a2, dT a3, dT a4, dN a5]
              exact exit_keep (L1 := []) ⟨by rw [dN (by omega)], rfl⟩ trivial trivial
          · simp (maxSteps := 2000000) only [↓vP0, vQ0, vT0, simprocAttr, dT a0, dT a1, dT a2, dT a3, dN a4]
            exact exit_keep (L1 := []) ⟨by rw [dN (by omega)], rfl⟩ trivial trivial
        · simp (maxSteps := 2000000) only [↓vP0, vQ0, vT0, simprocAttr, dT a0, dT a1, dT a2, dN a3]
          exact exit_keep (L1 := []) ⟨by rw [dN (by omega)], rfl⟩ trivial trivial
      · simp (maxSteps := 2000000) only [↓vP0, vQ0, vT0, simprocAttr, dT a0, dT a1, dN a2]
        exact exit_keep (L1 := []) ⟨by rw [dN (by omega)], rfl⟩ trivial trivial
    · simp (maxSteps := 2000000) only [↓vP0, vQ0, vT0, simprocAttr, dT a0, dN a1]
      exact exit_keep (L1 := []) ⟨by rw [dN (by omega)], rfl⟩ trivial trivial
  · simp (maxSteps := 2000000) only [↓vP0, vQ0, vT0, simprocAttr, dN a0]
    exact exit_keep (L1 := []) ⟨by rw [dN (by omega)], rfl⟩ trivial trivial
theorem c_pRefValid (t dx dy : Int) (hx : I64 dx) (hy : I64 dy) (ty : Bool) (kd : Int) : LCall Try.prog 26 [optV t dx dy ty kd] [] fun r L => r = .bool (decide (OptOk t dx dy kd)) ∧ L = [] := by
  have fin : ∀ (hk : kd = 0 ∨ kd = 1) (ht : t = 0 ∨ t = 1) (hm : -200 ≤ min dx dy) (f : Int), f = max (max (max dx (-dx)) dy) (-dy) → decide (f ≤ 200) = decide (OptOk t dx dy kd) := by
    intro hk ht hm f hf
    by_cases hq : f ≤ 200
    · rw [dT hq, dT (by omega)]
    · rw [dN hq, dN (by omega)]
  by_cases h0 : t = 0
  · subst h0
    refine lcall_of_vc tyok Try.func26 rfl (by rfl) Try.results26 Try.ntmps26 ?_; intro C hD
    by_cases k0 : kd = 0
    · subst k0
      by_cases hm : -200 ≤ min dx dy
      · simp (maxSteps := 2000000) only [↓vP0, vQ0, vT0, simprocAttr, dT hm]
        refine exit_keep (L1 := []) ⟨?_, rfl⟩ trivial trivial
        rw [← fin (by omega) (by omega) hm _ rfl]
        simp (disch := omega) only [wr64, wru64, wru8, tdv, tmd, fdv]
        simp only [Int.zero_sub]
        done
      · simp (maxSteps := 2000000) only [↓vP0, vQ0, vT0, simprocAttr, dN hm]
        exact exit_keep (L1 := []) ⟨by rw [dN (by omega)], rfl⟩ trivial trivial
    · by_cases k1 : kd = 1
      · subst k1
        by_cases hm : -200 ≤ min dx dy
        · simp (maxSteps := 2000000) only [↓vP0, vQ0, vT0, simprocAttr, dT hm]
          refine exit_keep (L1 := []) ⟨?_, rfl⟩ trivial trivial
          rw [← fin (by omega) (by omega) hm _ rfl]
          simp (disch := omega) only [wr64, wru64, wru8, tdv, tmd, fdv]
          simp only [Int.zero_sub]
          done
        · simp (maxSteps := 2000000) only [↓vP0, vQ0, vT0, simprocAttr, dN hm]
          exact exit_keep (L1 := []) ⟨by rw [dN (by omega)], rfl⟩ trivial trivial
      · have e0 : (kd == 0) = false := by simpa using k0
        have e1 : (kd == 1) = false := by simpa using k1
        simp (maxSteps := 2000000) only [↓vP0, vQ0, vT0, simprocAttr, e0, e1]
        exact exit_keep (L1 := []) ⟨by rw [dN (by omega)], rfl⟩ trivial trivial
  by_cases h1 : t = 1
  · subst h1
    refine lcall_of_vc tyok Try.func26 rfl (by rfl) Try.results26 Try.ntmps26 ?_; intro C hD
    by_cases k0 : kd = 0
    · subst k0
      by_cases hm : -200 ≤ min dx dy
      · simp (maxSteps := 2000000) only [↓vP0, vQ0, vT0, simprocAttr, dT hm]
        refine exit_keep (L1 := []) ⟨?_, rfl⟩ trivial trivial
        rw [← fin (by omega) (by omega) hm _ rfl]
        simp (disch := omega) only [wr64, wru64, wru8, tdv, tmd, fdv]
        simp only [Int.zero_sub]
        done
      · simp (maxSteps := 2000000) only [↓vP0, vQ0, vT0, simprocAttr, dN hm]
        exact exit_keep (L1 := []) ⟨by rw [dN (by omega)], rfl⟩ trivial trivial
    · by_cases k1 : kd = 1
      · subst k1
        by_cases hm : -200 ≤ min dx dy
        · simp (maxSteps := 2000000) only [↓vP0, vQ0, vT0, simprocAttr, dT hm]
          refine exit_keep (L1 := []) ⟨?_, rfl⟩ trivial trivial
          rw [← fin (by omega) (by omega) hm _ rfl]
          simp (disch := omega) only [wr64, wru64, wru8, tdv, tmd, fdv]
          simp only [Int.zero_sub]
          done
        · simp (maxSteps := 2000000) only [↓vP0, vQ0, vT0, simprocAttr, dN hm]
          exact exit_keep (L1 := []) ⟨by rw [dN (by omega)], rfl⟩ trivial trivial
      · have e0 : (kd == 0) = false := by simpa using k0
        have e1 : (kd == 1) = false := by simpa using k1
        simp (maxSteps := 2000000) only [↓vP0, vQ0, vT0, simprocAttr, e0, e1]
        exact exit_keep (L1 := []) ⟨by rw [dN (by omega)], rfl⟩ trivial trivial
  have e0 : (t == 0) = false := by simpa using h0
  have e1 : (t == 1) = false := by simpa using h1
  refine lcall_of_vc tyok Try.func26 rfl (by rfl) Try.results26 Try.ntmps26 ?_; intro C hD
  simp (maxSteps := 2000000) only [↓vP0, vQ0, vT0, simprocAttr, e0, e1]
  exact exit_keep (L1 := []) ⟨by rw [dN (by omega)], rfl⟩ trivial trivial

/-- A bitmap: W, H, Pix in object k. -/
abbrev bmV (w h : Int) (k n : Nat) : AV := .agg [.int .i64 w, .int .i64 h, .slice k 0 n]
def bmB (w h : Int) (p : List Int) : Bool := sizeB w h && decide ((p.length : Int) = w * h) && rowB p
theorem c_rIsBitmap (w h : Int) (p : List Int) (hp : p.length ≤ 9223372036854775807) : LCall Try.prog 35 [bmV w h 0 p.length] (pixL p) fun r L => r = .bool (bmB w h p) ∧ L = pixL p := by
  refine lcall_of_vc tyok Try.func35 rfl (by rfl) Try.results35 Try.ntmps35 ?_; intro C hD
  simp (maxSteps := 2000000) only [↓vP0, vQ0, vT0, simprocAttr]
  refine callK_pure (c_rIsSize w h) rfl rfl ?_
  by_cases a0 : sizeB w h = true
  · have hs := (sizeB_iff w h).1 a0
    have hm := area_bd hs.1 hs.2.1 hs.2.2.1 hs.2.2.2.1
    have ew : IntKind.i64.wrap (w * h) = w * h := by simp (disch := omega) only [wr64, wru64, wru8, tdv, tmd, fdv]
    simp (maxSteps := 2000000) only [↓vP0, vQ0, vT0, simprocAttr, a0]
    by_cases a1 : (p.length : Int) = w * h
    · have e1 : ((p.length : Int) == w * h) = true := by simpa using a1
      simp (maxSteps := 2000000) only [↓vP0, vQ0, vT0, simprocAttr, ew, e1]
      refine callK_read (c_rIsRow p hp) [0] ?_ ?_ ?_ rfl ?_
      · simp [ren, rens, sg, sig, okIn, okIns, exK, leK, leF, leV, matK, objM, renO, roSame, lh, born, AObj.born, AObj.live, injOk, kindOf, rens_ints, okIns_ints, List.range, List.range.loop, mrg, mset]
      · simp [ren, rens, sg, sig, okIn, okIns, exK, leK, leF, leV, matK, objM, renO, roSame, lh, born, AObj.born, AObj.live, injOk, kindOf, rens_ints, okIns_ints, List.range, List.range.loop, mrg, mset]
      · simp [ren, rens, sg, sig, okIn, okIns, exK, leK, leF, leV, matK, objM, renO, roSame, lh, born, AObj.born, AObj.live, injOk, kindOf, rens_ints, okIns_ints, List.range, List.range.loop, mrg, mset]
      simp (maxSteps := 2000000) only [↓vP0, vQ0, vT0, simprocAttr]
      exact exit_keep (L1 := pixL p) ⟨by simp only [bmB, a0, dT a1, Bool.true_and], rfl⟩ trivial (pix_keep p)
    · have e1 : ((p.length : Int) == w * h) = false := by simpa using a1
      simp (maxSteps := 2000000) only [↓vP0, vQ0, vT0, simprocAttr, ew, e1]
      exact exit_keep (L1 := pixL p) ⟨by simp only [bmB, dN a1, Bool.and_false, Bool.false_and], rfl⟩ trivial (pix_keep p)
  · have a1 : sizeB w h = false := by simpa using a0
    simp (maxSteps := 2000000) only [↓vP0, vQ0, vT0, simprocAttr, a1]
    exact exit_keep (L1 := pixL p) ⟨by simp only [bmB, a1, Bool.false_and], rfl⟩ trivial (pix_keep p)
end Go.Proofs.Ytbfefpkhalegmaa

set_option linter.unusedVariables false
set_option linter.unusedSimpArgs false
namespace Go.Proofs.Ytbfefpkhalegmaa
open Go
set_option maxHeartbeats 4000000
set_option maxRecDepth 20000

def pixAt (w h : Int) (p : List Int) (x y : Int) : Int := if x < 0 ∨ y < 0 ∨ w ≤ x ∨ h ≤ y then 0 else p.getD (y * w + x).toNat 0
theorem at_bd {w h x y : Int} (x0 : 0 ≤ x) (x1 : x < w) (y0 : 0 ≤ y) (y1 : y < h) : 0 ≤ y * w ∧ y * w + x < w * h := by
  refine ⟨Int.mul_nonneg y0 (by omega), ?_⟩
  have : y * w ≤ (h - 1) * w := Int.mul_le_mul_of_nonneg_right (by omega) (by omega)
  rw [Int.sub_mul, Int.one_mul, Int.mul_comm h w] at this
  omega
abbrev BmOk (w h : Int) (p : List Int) : Prop := SizeOk w h ∧ (p.length : Int) = w * h
theorem bmOk_len {w h : Int} {p : List Int} (hb : BmOk w h p) : p.length ≤ 8192 := by have := hb.1.2.2.2.2; have := hb.2; omega

theorem c_rPix (w h : Int) (p : List Int) (hb : BmOk w h p) (x y : Int) : LCall Try.prog 65 [bmV w h 0 p.length, .int .i64 x, .int .i64 y] (pixL p) fun r L => r = .int .u8 (pixAt w h p x y) ∧ L = pixL p := by
  obtain ⟨⟨b0, b1, b2, b3, b4⟩, hl⟩ := hb
  refine lcall_of_vc tyok Try.func65 rfl (by rfl) Try.results65 Try.ntmps65 ?_; intro C hD
  by_cases x0 : x < 0
  · simp (maxSteps := 2000000) only [↓vP0, vQ0, vT0, simprocAttr, dT x0]
    exact exit_keep (L1 := pixL p) ⟨by rw [pixAt, if_pos (by omega)], rfl⟩ trivial (pix_keep p)
  · by_cases y0 : y < 0
    · simp (maxSteps := 2000000) only [↓vP0, vQ0, vT0, simprocAttr, dN x0, dT y0]
      exact exit_keep (L1 := pixL p) ⟨by rw [pixAt, if_pos (by omega)], rfl⟩ trivial (pix_keep p)
    · by_cases x1 : w ≤ x
      · simp (maxSteps := 2000000) only [↓vP0, vQ0, vT0, simprocAttr, dN x0, dN y0, dT x1]
        exact exit_keep (L1 := pixL p) ⟨by rw [pixAt, if_pos (by omega)], rfl⟩ trivial (pix_keep p)
      · by_cases y1 : h ≤ y
        · simp (maxSteps := 2000000) only [↓vP0, vQ0, vT0, simprocAttr, dN x0, dN y0, dN x1, dT y1]
          exact exit_keep (L1 := pixL p) ⟨by rw [pixAt, if_pos (by omega)], rfl⟩ trivial (pix_keep p)
        · have hbd := at_bd (w := w) (h := h) (x := x) (y := y) (by omega) (by omega) (by omega) (by omega)
          have e1 : IntKind.i64.wrap (y * w) = y * w := by simp (disch := omega) only [wr64, wru64, wru8, tdv, tmd, fdv]
          have e2 : IntKind.i64.wrap (y * w + x) = y * w + x := by simp (disch := omega) only [wr64, wru64, wru8, tdv, tmd, fdv]
          have hi : (y * w + x).toNat < p.length := by omega
          have g1 := ints_get .u8 p _ hi
          simp (maxSteps := 2000000) only [↓vP0, vQ0, vT0, simprocAttr, dN x0, dN y0, dN x1, dN y1, e1, e2]
          refine chk_intro (by omega) ?_
          simp (maxSteps := 2000000) only [↓vP0, vQ0, vT0, simprocAttr, g1]
          exact exit_keep (L1 := pixL p) ⟨by rw [pixAt, if_neg (by omega)], rfl⟩ trivial (pix_keep p)
theorem c_at (w h : Int) (p : List Int) (hb : BmOk w h p) (x y : Int) : LCall Try.prog 92 [bmV w h 0 p.length, .int .i64 x, .int .i64 y] (pixL p) fun r L => r = .int .u8 (pixAt w h p x y) ∧ L = pixL p := by
  obtain ⟨⟨b0, b1, b2, b3, b4⟩, hl⟩ := hb
  refine lcall_of_vc tyok Try.func92 rfl (by rfl) Try.results92 Try.ntmps92 ?_; intro C hD
  by_cases x0 : x < 0
  · simp (maxSteps := 2000000) only [↓vP0, vQ0, vT0, simprocAttr, dT x0]
    exact exit_keep (L1 := pixL p) ⟨by rw [pixAt, if_pos (by omega)], rfl⟩ trivial (pix_keep p)
  · by_cases y0 : y < 0
    · simp (maxSteps := 2000000) only [↓vP0, vQ0, vT0, simprocAttr, dN x0, dT y0]
      exact exit_keep (L1 := pixL p) ⟨by rw [pixAt, if_pos (by omega)], rfl⟩ trivial (pix_keep p)
    · by_cases x1 : w ≤ x
      · simp (maxSteps := 2000000) only [↓vP0, vQ0, vT0, simprocAttr, dN x0, dN y0, dT x1]
        exact exit_keep (L1 := pixL p) ⟨by rw [pixAt, if_pos (by omega)], rfl⟩ trivial (pix_keep p)
      · by_cases y1 : h ≤ y
        · simp (maxSteps := 2000000) only [↓vP0, vQ0, vT0, simprocAttr, dN x0, dN y0, dN x1, dT y1]
          exact exit_keep (L1 := pixL p) ⟨by rw [pixAt, if_pos (by omega)], rfl⟩ trivial (pix_keep p)
        · have hbd := at_bd (w := w) (h := h) (x := x) (y := y) (by omega) (by omega) (by omega) (by omega)
          have e1 : IntKind.i64.wrap (y * w) = y * w := by simp (disch := omega) only [wr64, wru64, wru8, tdv, tmd, fdv]
          have e2 : IntKind.i64.wrap (y * w + x) = y * w + x := by simp (disch := omega) only [wr64, wru64, wru8, tdv, tmd, fdv]
          have hi : (y * w + x).toNat < p.length := by omega
          have g1 := ints_get .u8 p _ hi
          simp (maxSteps := 2000000) only [↓vP0, vQ0, vT0, simprocAttr, dN x0, dN y0, dN x1, dN y1, e1, e2]
          refine chk_intro (by omega) ?_
          simp (maxSteps := 2000000) only [↓vP0, vQ0, vT0, simprocAttr, g1]
          exact exit_keep (L1 := pixL p) ⟨by rw [pixAt, if_neg (by omega)], rfl⟩ trivial (pix_keep p)

theorem c_pBmValid (w h : Int) (p : List Int) (hp : p.length ≤ 9223372036854775807) : LCall Try.prog 86 [bmV w h 0 p.length] (pixL p) fun r L => r = .bool (bmB w h p) ∧ L = pixL p := by
  refine lcall_of_vc tyok Try.func86 rfl (by rfl) Try.results86 Try.ntmps86 ?_; intro C hD
  simp (maxSteps := 2000000) only [↓vP0, vQ0, vT0, simprocAttr]
  refine callK_pure (c_bfits w h) rfl rfl ?_
  by_cases a0 : sizeB w h = true
  · have hs := (sizeB_iff w h).1 a0
    have hm := area_bd hs.1 hs.2.1 hs.2.2.1 hs.2.2.2.1
    have ew : IntKind.i64.wrap (w * h) = w * h := by simp (disch := omega) only [wr64, wru64, wru8, tdv, tmd, fdv]
    by_cases a1 : (p.length : Int) = w * h
    · have e1 : ((p.length : Int) != w * h) = false := by simpa using a1
      simp (maxSteps := 2000000) only [↓vP0, vQ0, vT0, simprocAttr, a0, ew, e1]
      refine loopK_of tyok hD (α := Nat) (fun i => i ≤ p.length ∧ (p.take i).all (fun x => decide (x ≤ 1)) = true) (fun i => p.length - i) (fun i => [.junk, .ptr 1 0, .junk, .junk, .junk, .junk, .junk, .junk, .junk, .junk, .junk, .junk, .junk, .junk, .junk, .junk, .junk, .junk, .junk, .junk, .junk, .junk, .junk, .slice 0 0 p.length, .int .i64 p.length, .int .i64 i, .junk, .junk, .junk, .junk, .junk, .junk])
        (fun i => pixL p ++ [.own [.int .i64 w, .int .i64 h, .slice 0 0 p.length] 48]) 0 ⟨by omega, by simp⟩ ?_ ?_
      · (refine ⟨by simp [leF, leV] <;> rfl, ⟨_, by first | rfl | exact (List.append_nil _).symm⟩, by simp, by simp [okIns, okIn, okIns_ints], by simp [AObj.born, okIns, okIn, AObj.cells, okIns_ints]⟩)
      rintro i ⟨hi, htk⟩
      simp (maxSteps := 2000000) only [↓vP0, vQ0, vT0, simprocAttr]
      (with_reducible first | refine condK_dec (fun h => ?_) (fun h => ?_) | refine condK_beq (fun h => ?_) (fun h => ?_) | refine condK_bne (fun h => ?_) (fun h => ?_) | refine condK_intro (fun h => ?_) (fun h => ?_))
      · have hil : i < p.length := by omega
        have g1 := ints_get .u8 p i hil
        simp (maxSteps := 2000000) only [↓vP0, vQ0, vT0, simprocAttr]
        refine chk_intro (by omega) ?_
        simp (maxSteps := 2000000) only [↓vP0, vQ0, vT0, simprocAttr, g1]
        (with_reducible first | refine condK_dec (fun h => ?_) (fun h => ?_) | refine condK_beq (fun h => ?_) (fun h => ?_) | refine condK_bne (fun h => ?_) (fun h => ?_) | refine condK_intro (fun h => ?_) (fun h => ?_))
        · simp (maxSteps := 2000000) only [↓vP0, vQ0, vT0, simprocAttr]
          exact exit_keep (L1 := pixL p) ⟨by rw [bmB, rowB, all_false hil (dN (by omega))]; simp only [Bool.and_false], rfl⟩ trivial (pix_keep p)
        · simp (maxSteps := 2000000) only [↓vP0, vQ0, vT0, simprocAttr]
          simp (disch := omega) only [wr64, wru64, wru8, tdv, tmd, fdv]
          refine ⟨i + 1, ⟨by omega, all_take_succ hil htk (dT (by omega))⟩, by omega, ?_⟩
          simp only [Int.natCast_add, Int.cast_ofNat_Int]
          (refine ⟨by simp [leF, leV] <;> rfl, ⟨_, by first | rfl | exact (List.append_nil _).symm⟩, by simp, by simp [okIns, okIn, okIns_ints], by simp [AObj.born, okIns, okIn, AObj.cells, okIns_ints]⟩)
      · have hil : i = p.length := by omega
        subst hil
        rw [List.take_length] at htk
        simp (maxSteps := 2000000) only [↓vP0, vQ0, vT0, simprocAttr]
        exact exit_keep (L1 := pixL p) ⟨by rw [bmB, rowB, htk, a0, dT a1]; rfl, rfl⟩ trivial (pix_keep p)
    · have e1 : ((p.length : Int) != w * h) = true := by simpa using a1
      simp (maxSteps := 2000000) only [↓vP0, vQ0, vT0, simprocAttr, a0, ew, e1]
      exact exit_keep (L1 := pixL p) ⟨by simp only [bmB, dN a1, Bool.and_false, Bool.false_and], rfl⟩ trivial (pix_keep p)
  · have a1 : sizeB w h = false := by simpa using a0
    simp (maxSteps := 2000000) only [↓vP0, vQ0, vT0, simprocAttr, a1]
    exact exit_keep (L1 := pixL p) ⟨by simp only [bmB, a1, Bool.false_and], rfl⟩ trivial (pix_keep p)

abbrev pix2L (p q : List Int) : List AObj := [.ro (ints .u8 p) 5, .ro (ints .u8 q) 5]
theorem pix2_keep (p q : List Int) : keepL 2 (pix2L p q) (pix2L p q) := ⟨⟨rfl, by rw [okIns_ints]; trivial⟩, ⟨rfl, by rw [okIns_ints]; trivial⟩, trivial⟩
theorem c_SameBitmap (w v w' v' : Int) (p q : List Int) (hp : p.length ≤ 9223372036854775807) (hq : q.length ≤ 9223372036854775807) : LCall Try.prog 34 [bmV w v 0 p.length, bmV w' v' 1 q.length] (pix2L p q) fun r L =>
    r = .bool (decide (w = w' ∧ v = v' ∧ p = q)) ∧ L = pix2L p q := by
  refine lcall_of_vc tyok Try.func34 rfl (by rfl) Try.results34 Try.ntmps34 ?_; intro C hD
  by_cases hw : w = w'
  · subst hw
    have e0 : (w != w) = false := by simp
    by_cases hh : v = v'
    · subst hh
      have e1 : (v != v) = false := by simp
      by_cases hl : p.length = q.length
      · have e2 : ((p.length : Int) != (q.length : Int)) = false := by simp only [bne_eq_false_iff_eq]; omega
        simp (maxSteps := 2000000) only [↓vP0, vQ0, vT0, simprocAttr, e0, e1, e2]
        refine loopK_of tyok hD (α := Nat) (fun i => i ≤ p.length ∧ p.take i = q.take i) (fun i => p.length - i) (fun i => [.junk, .junk, .ptr 2 0, .ptr 3 0, .junk, .junk, .junk, .junk, .junk, .junk, .junk, .junk, .junk, .junk, .junk, .junk, .junk, .junk, .junk, .junk, .junk, .junk, .junk, .junk, .junk, .junk, .junk, .junk, .junk, .int .i64 p.length, .int .i64 i, .junk, .junk, .junk, .junk, .junk, .junk, .junk, .junk, .junk, .junk, .junk, .junk, .junk, .junk])
          (fun i => pix2L p q ++ [.own [.int .i64 w, .int .i64 v, .slice 0 0 p.length] 48, .own [.int .i64 w, .int .i64 v, .slice 1 0 q.length] 48]) 0 ⟨by omega, by simp⟩ ?_ ?_
        · (refine ⟨by simp [leF, leV] <;> rfl, ⟨_, by first | rfl | exact (List.append_nil _).symm⟩, by simp, by simp [okIns, okIn, okIns_ints], by simp [AObj.born, okIns, okIn, AObj.cells, okIns_ints]⟩)
        rintro i ⟨hi, htk⟩
        simp (maxSteps := 2000000) only [↓vP0, vQ0, vT0, simprocAttr]
        (with_reducible first | refine condK_dec (fun h => ?_) (fun h => ?_) | refine condK_beq (fun h => ?_) (fun h => ?_) | refine condK_bne (fun h => ?_) (fun h => ?_) | refine condK_intro (fun h => ?_) (fun h => ?_))
        · have hil : i < p.length := by omega
          have him : i < q.length := by omega
          have g1 := ints_get .u8 p i hil
          have g2 := ints_get .u8 q i him
          simp (maxSteps := 2000000) only [↓vP0, vQ0, vT0, simprocAttr]
          refine drawK_of tyok rfl (usL []) (fun i => .below 0) (by kernel_rfl) ?_
          simp (maxSteps := 2000000) only [↓vP0, vQ0, vT0, simprocAttr]
          refine chk_intro (by omega) ?_
          simp (maxSteps := 2000000) only [↓vP0, vQ0, vT0, simprocAttr, g1]
          refine chk_intro (by omega) ?_
          simp (maxSteps := 2000000) only [↓vP0, vQ0, vT0, simprocAttr, g1, g2]
          by_cases he : p.getD i 0 = q.getD i 0
          · have e3 : (p.getD i 0 != q.getD i 0) = false := by rw [he]; simp
            simp (maxSteps := 2000000) only [↓vP0, vQ0, vT0, simprocAttr, e3]
            simp (disch := omega) only [wr64, wru64, wru8, tdv, tmd, fdv]
            refine ⟨i + 1, ⟨by omega, take_eq_of htk hil him he⟩, by omega, ?_⟩
            simp only [Int.natCast_add, Int.cast_ofNat_Int]
            (refine ⟨by simp [leF, leV] <;> rfl, ⟨_, by first | rfl | exact (List.append_nil _).symm⟩, by simp, by simp [okIns, okIn, okIns_ints], by simp [AObj.born, okIns, okIn, AObj.cells, okIns_ints]⟩)
          · have e3 : (p.getD i 0 != q.getD i 0) = true := by simpa only [bne_iff_ne] using he
            have hne : ¬ (w = w ∧ v = v ∧ p = q) := fun e => by have e := e.2.2; subst e; exact he rfl
            simp (maxSteps := 2000000) only [↓vP0, vQ0, vT0, simprocAttr, e3]
            exact exit_keep (L1 := pix2L p q) ⟨by rw [decide_eq_false hne], rfl⟩ trivial (pix2_keep p q)
        · have hil : i = p.length := by omega
          subst hil
          have he : w = w ∧ v = v ∧ p = q := by rw [List.take_length, hl, List.take_length] at htk; exact ⟨rfl, rfl, htk⟩
          simp (maxSteps := 2000000) only [↓vP0, vQ0, vT0, simprocAttr]
          exact exit_keep (L1 := pix2L p q) ⟨by rw [decide_eq_true he], rfl⟩ trivial (pix2_keep p q)
      · have e2 : ((p.length : Int) != (q.length : Int)) = true := by simp only [bne_iff_ne]; omega
        simp (maxSteps := 2000000) only [↓vP0, vQ0, vT0, simprocAttr, e0, e1, e2]
        exact exit_keep (L1 := pix2L p q) ⟨by rw [decide_eq_false (fun e => hl (by rw [e.2.2]))], rfl⟩ trivial (pix2_keep p q)
    · have e1 : (v != v') = true := by simpa only [bne_iff_ne] using hh
      simp (maxSteps := 2000000) only [↓vP0, vQ0, vT0, simprocAttr, e0, e1]
      exact exit_keep (L1 := pix2L p q) ⟨by rw [decide_eq_false (fun e => hh e.2.1)], rfl⟩ trivial (pix2_keep p q)
  · have e0 : (w != w') = true := by simpa only [bne_iff_ne] using hw
    simp (maxSteps := 2000000) only [↓vP0, vQ0, vT0, simprocAttr, e0]
    exact exit_keep (L1 := pix2L p q) ⟨by rw [decide_eq_false (fun e => hw e.1)], rfl⟩ trivial (pix2_keep p q)
end Go.Proofs.Ytbfefpkhalegmaa

set_option linter.unusedVariables false
set_option linter.unusedSimpArgs false
namespace Go.Proofs.Ytbfefpkhalegmaa
open Go
set_option maxHeartbeats 4000000
set_option maxRecDepth 20000

abbrev Small (x : Int) : Prop := 0 ≤ x ∧ x ≤ 200
abbrev OffOk (dx dy : Int) : Prop := -200 ≤ dx ∧ dx ≤ 200 ∧ -200 ≤ dy ∧ dy ≤ 200
def nine (dx dy w v : Int) (q : List Int) (x y : Int) (i : Nat) : Bool := pixAt w v q (x - dx + (i : Int) % 3 - 1) (y - dy + (i : Int) / 3 - 1) == pixAt w v q (x - dx) (y - dy)
def flatB (dx dy w v : Int) (q : List Int) (x y : Int) : Bool := (List.range 9).all (nine dx dy w v q x y)
def flatC (dx dy w v : Int) (q : List Int) (x y : Int) : Int := if flatB dx dy w v q x y then pixAt w v q (x - dx) (y - dy) else 0
theorem range_succ_all {f : Nat → Bool} {i : Nat} (h : (List.range i).all f = true) (h1 : f i = true) : (List.range (i + 1)).all f = true := by
  rw [List.range_succ, List.all_append, h]; simp only [List.all_cons, List.all_nil, h1, Bool.and_true]
theorem range_all_false {f : Nat → Bool} {n i : Nat} (hi : i < n) (h1 : f i = false) : (List.range n).all f = false := by
  rw [List.all_eq_false]; exact ⟨i, List.mem_range.2 hi, by rw [h1]; simp⟩
abbrev optC (t dx dy : Int) (ty : Bool) (kd : Int) : AObj := .own [.int .i64 t, .int .i64 dx, .int .i64 dy, .bool ty, .int .i64 kd] 43
abbrev bmC (w v : Int) (k n : Nat) : AObj := .own [.int .i64 w, .int .i64 v, .slice k 0 n] 48

theorem c_rAlike (t dx dy : Int) (ty : Bool) (kd : Int) (ho : OffOk dx dy) (w v : Int) (q : List Int) (hb : BmOk w v q) (x y : Int) (hx : Small x) (hy : Small y) :
    LCall Try.prog 64 [optV t dx dy ty kd, bmV w v 0 q.length, .int .i64 x, .int .i64 y] (pixL q) fun r L =>
      r = .tup [.int .u8 (flatC dx dy w v q x y), .bool (flatB dx dy w v q x y)] ∧ L = pixL q := by
  have hbb := hb
  obtain ⟨⟨b0, b1, b2, b3, b4⟩, hl⟩ := hbb
  obtain ⟨o0, o1, o2, o3⟩ := ho
  obtain ⟨x0, x1⟩ := hx
  obtain ⟨y0, y1⟩ := hy
  refine lcall_of_vc tyok Try.func64 rfl (by rfl) Try.results64 Try.ntmps64 ?_; intro C hD
  simp (maxSteps := 2000000) only [↓vP0, vQ0, vT0, simprocAttr]
  simp (disch := omega) only [wr64, wru64, wru8, tdv, tmd, fdv]
  refine callK_read (c_rPix w v q hb (x - dx) (y - dy)) [0] ?_ ?_ ?_ rfl ?_
  · simp [ren, rens, sg, sig, okIn, okIns, exK, leK, leF, leV, matK, objM, renO, roSame, lh, born, AObj.born, AObj.live, injOk, kindOf, rens_ints, okIns_ints, List.range, List.range.loop, mrg, mset]
  · simp [ren, rens, sg, sig, okIn, okIns, exK, leK, leF, leV, matK, objM, renO, roSame, lh, born, AObj.born, AObj.live, injOk, kindOf, rens_ints, okIns_ints, List.range, List.range.loop, mrg, mset]
  · simp [ren, rens, sg, sig, okIn, okIns, exK, leK, leF, leV, matK, objM, renO, roSame, lh, born, AObj.born, AObj.live, injOk, kindOf, rens_ints, okIns_ints, List.range, List.range.loop, mrg, mset]
  simp (maxSteps := 2000000) only [↓vP0, vQ0, vT0, simprocAttr]
  refine loopK_of tyok hD (α := Nat) (fun i => i ≤ 9 ∧ (List.range i).all (nine dx dy w v q x y) = true) (fun i => 9 - i) (fun i => [.junk, .junk, .int .i64 x, .int .i64 y, .ptr 1 0, .ptr 2 0, .junk, .junk, .junk, .junk, .int .u8 (pixAt w v q (x - dx) (y - dy)), .int .i64 i, .junk, .junk, .junk, .junk, .junk, .junk, .junk, .junk, .junk, .junk, .junk, .junk, .junk, .junk, .junk, .junk, .junk, .junk, .junk, .junk, .junk, .junk, .junk, .junk, .junk, .junk, .junk, .junk, .junk, .junk, .junk, .junk, .junk, .junk, .junk])
    (fun i => pixL q ++ [optC t dx dy ty kd, bmC w v 0 q.length]) 0 ⟨by omega, by simp⟩ ?_ ?_
  · (refine ⟨by simp [leF, leV] <;> rfl, ⟨_, by first | rfl | exact (List.append_nil _).symm⟩, by simp, by simp [okIns, okIn, okIns_ints], by simp [AObj.born, okIns, okIn, AObj.cells, okIns_ints]⟩)
  rintro i ⟨hi, hall⟩
  simp (maxSteps := 2000000) only [↓vP0, vQ0, vT0, simprocAttr]
  (with_reducible first | refine condK_dec (fun h => ?_) (fun h => ?_) | refine condK_beq (fun h => ?_) (fun h => ?_) | refine condK_bne (fun h => ?_) (fun h => ?_) | refine condK_intro (fun h => ?_) (fun h => ?_))
  · have hi9 : i < 9 := by omega
    simp (maxSteps := 2000000) only [↓vP0, vQ0, vT0, simprocAttr]
    simp (disch := omega) only [wr64, wru64, wru8, tdv, tmd, fdv]
    refine callK_read (c_rPix w v q hb (x - dx + (i : Int) % 3 - 1) (y - dy + (i : Int) / 3 - 1)) [0] ?_ ?_ ?_ rfl ?_
    · simp [ren, rens, sg, sig, okIn, okIns, exK, leK, leF, leV, matK, objM, renO, roSame, lh, born, AObj.born, AObj.live, injOk, kindOf, rens_ints, okIns_ints, List.range, List.range.loop, mrg, mset]
    · simp [ren, rens, sg, sig, okIn, okIns, exK, leK, leF, leV, matK, objM, renO, roSame, lh, born, AObj.born, AObj.live, injOk, kindOf, rens_ints, okIns_ints, List.range, List.range.loop, mrg, mset]
    · simp [ren, rens, sg, sig, okIn, okIns, exK, leK, leF, leV, matK, objM, renO, roSame, lh, born, AObj.born, AObj.live, injOk, kindOf, rens_ints, okIns_ints, List.range, List.range.loop, mrg, mset]
    by_cases he : pixAt w v q (x - dx + (i : Int) % 3 - 1) (y - dy + (i : Int) / 3 - 1) = pixAt w v q (x - dx) (y - dy)
    · have e3 : (pixAt w v q (x - dx + (i : Int) % 3 - 1) (y - dy + (i : Int) / 3 - 1) != pixAt w v q (x - dx) (y - dy)) = false := by rw [he]; simp
      simp (maxSteps := 2000000) only [↓vP0, vQ0, vT0, simprocAttr, e3]
      simp (disch := omega) only [wr64, wru64, wru8, tdv, tmd, fdv]
      refine ⟨i + 1, ⟨by omega, range_succ_all hall (by simpa only [nine, beq_iff_eq] using he)⟩, by omega, ?_⟩
      simp only [Int.natCast_add, Int.cast_ofNat_Int]
      (refine ⟨by simp [leF, leV] <;> rfl, ⟨_, by first | rfl | exact (List.append_nil _).symm⟩, by simp, by simp [okIns, okIn, okIns_ints], by simp [AObj.born, okIns, okIn, AObj.cells, okIns_ints]⟩)
    · have e3 : (pixAt w v q (x - dx + (i : Int) % 3 - 1) (y - dy + (i : Int) / 3 - 1) != pixAt w v q (x - dx) (y - dy)) = true := by simpa only [bne_iff_ne] using he
      have hf : flatB dx dy w v q x y = false := range_all_false hi9 (by simpa only [nine, beq_eq_false_iff_ne] using he)
      simp (maxSteps := 2000000) only [↓vP0, vQ0, vT0, simprocAttr, e3]
      exact exit_keep (L1 := pixL q) ⟨by rw [flatC, hf]; rfl, rfl⟩ ⟨trivial, trivial, trivial⟩ (pix_keep q)
  · have hi9 : i = 9 := by omega
    subst hi9
    have hf : flatB dx dy w v q x y = true := hall
    simp (maxSteps := 2000000) only [↓vP0, vQ0, vT0, simprocAttr]
    exact exit_keep (L1 := pixL q) ⟨by rw [flatC, hf]; rfl, rfl⟩ ⟨trivial, trivial, trivial⟩ (pix_keep q)

def likeB (dx dy : Int) (w v : Int) (p : List Int) (w' v' : Int) (q : List Int) (y : Int) (x : Nat) : Bool := !flatB dx dy w' v' q x y || pixAt w v p x y == flatC dx dy w' v' q x y
def rowT (dx dy : Int) (w v : Int) (p : List Int) (w' v' : Int) (q : List Int) (y : Int) : Bool := (List.range w.toNat).all (likeB dx dy w v p w' v' q y)
theorem c_rRow (t dx dy : Int) (ty : Bool) (kd : Int) (ho : OffOk dx dy) (w v w' v' : Int) (p q : List Int) (hb : BmOk w v p) (hr : BmOk w' v' q) (y : Int) (hy : Small y) :
    LCall Try.prog 99 [optV t dx dy ty kd, bmV w v 0 p.length, bmV w' v' 1 q.length, .int .i64 y] (pix2L p q) fun r L =>
      r = .bool (rowT dx dy w v p w' v' q y) ∧ L = pix2L p q := by
  have hbb := hb
  obtain ⟨⟨b0, b1, b2, b3, b4⟩, hl⟩ := hbb
  refine lcall_of_vc tyok Try.func99 rfl (by rfl) Try.results99 Try.ntmps99 ?_; intro C hD
  simp (maxSteps := 2000000) only [↓vP0, vQ0, vT0, simprocAttr]
  refine loopK_of tyok hD (α := Nat) (fun i => (i : Int) ≤ w ∧ (List.range i).all (likeB dx dy w v p w' v' q y) = true) (fun i => w.toNat - i) (fun i => [.junk, .junk, .junk, .int .i64 y, .ptr 2 0, .ptr 3 0, .ptr 4 0, .junk, .junk, .int .i64 i, .junk, .junk, .junk, .junk, .junk, .junk, .junk, .junk, .junk, .junk, .junk, .junk, .junk, .junk, .junk, .junk, .junk, .junk, .junk, .junk, .junk, .junk, .junk, .junk, .junk])
    (fun i => pix2L p q ++ [optC t dx dy ty kd, bmC w v 0 p.length, bmC w' v' 1 q.length]) 0 ⟨by omega, by simp⟩ ?_ ?_
  · (refine ⟨by simp [leF, leV] <;> rfl, ⟨_, by first | rfl | exact (List.append_nil _).symm⟩, by simp, by simp [okIns, okIn, okIns_ints], by simp [AObj.born, okIns, okIn, AObj.cells, okIns_ints]⟩)
  rintro i ⟨hi, hall⟩
  simp (maxSteps := 2000000) only [↓vP0, vQ0, vT0, simprocAttr]
  (with_reducible first | refine condK_dec (fun h => ?_) (fun h => ?_) | refine condK_beq (fun h => ?_) (fun h => ?_) | refine condK_bne (fun h => ?_) (fun h => ?_) | refine condK_intro (fun h => ?_) (fun h => ?_))
  · have hiw : i < w.toNat := by omega
    simp (maxSteps := 2000000) only [↓vP0, vQ0, vT0, simprocAttr]
    refine callK_read (c_rAlike t dx dy ty kd ho w' v' q hr i y ⟨by omega, by omega⟩ hy) [1] ?_ ?_ ?_ rfl ?_
    · simp [ren, rens, sg, sig, okIn, okIns, exK, leK, leF, leV, matK, objM, renO, roSame, lh, born, AObj.born, AObj.live, injOk, kindOf, rens_ints, okIns_ints, List.range, List.range.loop, mrg, mset]
    · simp [ren, rens, sg, sig, okIn, okIns, exK, leK, leF, leV, matK, objM, renO, roSame, lh, born, AObj.born, AObj.live, injOk, kindOf, rens_ints, okIns_ints, List.range, List.range.loop, mrg, mset]
    · simp [ren, rens, sg, sig, okIn, okIns, exK, leK, leF, leV, matK, objM, renO, roSame, lh, born, AObj.born, AObj.live, injOk, kindOf, rens_ints, okIns_ints, List.range, List.range.loop, mrg, mset]
    by_cases hf : flatB dx dy w' v' q i y = true
    · simp (maxSteps := 2000000) only [↓vP0, vQ0, vT0, simprocAttr, hf]
      refine callK_read (c_rPix w v p hb i y) [0] ?_ ?_ ?_ rfl ?_
      · simp [ren, rens, sg, sig, okIn, okIns, exK, leK, leF, leV, matK, objM, renO, roSame, lh, born, AObj.born, AObj.live, injOk, kindOf, rens_ints, okIns_ints, List.range, List.range.loop, mrg, mset]
      · simp [ren, rens, sg, sig, okIn, okIns, exK, leK, leF, leV, matK, objM, renO, roSame, lh, born, AObj.born, AObj.live, injOk, kindOf, rens_ints, okIns_ints, List.range, List.range.loop, mrg, mset]
      · simp [ren, rens, sg, sig, okIn, okIns, exK, leK, leF, leV, matK, objM, renO, roSame, lh, born, AObj.born, AObj.live, injOk, kindOf, rens_ints, okIns_ints, List.range, List.range.loop, mrg, mset]
      by_cases he : pixAt w v p i y = flatC dx dy w' v' q i y
      · have e3 : (pixAt w v p i y != flatC dx dy w' v' q i y) = false := by rw [he]; simp
        simp (maxSteps := 2000000) only [↓vP0, vQ0, vT0, simprocAttr, e3]
        simp (disch := omega) only [wr64, wru64, wru8, tdv, tmd, fdv]
        refine ⟨i + 1, ⟨by omega, range_succ_all hall (by simp only [likeB, he, beq_self_eq_true, Bool.or_true])⟩, by omega, ?_⟩
        simp only [Int.natCast_add, Int.cast_ofNat_Int]
        (refine ⟨by simp [leF, leV] <;> rfl, ⟨_, by first | rfl | exact (List.append_nil _).symm⟩, by simp, by simp [okIns, okIn, okIns_ints], by simp [AObj.born, okIns, okIn, AObj.cells, okIns_ints]⟩)
      · have e3 : (pixAt w v p i y != flatC dx dy w' v' q i y) = true := by simpa only [bne_iff_ne] using he
        have e4 : (pixAt w v p i y == flatC dx dy w' v' q i y) = false := by simpa only [beq_eq_false_iff_ne] using he
        simp (maxSteps := 2000000) only [↓vP0, vQ0, vT0, simprocAttr, e3]
        exact exit_keep (L1 := pix2L p q) ⟨by rw [rowT, range_all_false hiw (by simp only [likeB, hf, e4]; rfl)], rfl⟩ trivial (pix2_keep p q)
    · have hf : flatB dx dy w' v' q i y = false := by simpa using hf
      simp (maxSteps := 2000000) only [↓vP0, vQ0, vT0, simprocAttr, hf]
      simp (disch := omega) only [wr64, wru64, wru8, tdv, tmd, fdv]
      refine ⟨i + 1, ⟨by omega, range_succ_all hall (by simp only [likeB, hf]; rfl)⟩, by omega, ?_⟩
      simp only [Int.natCast_add, Int.cast_ofNat_Int]
      (refine ⟨by simp [leF, leV] <;> rfl, ⟨_, by first | rfl | exact (List.append_nil _).symm⟩, by simp, by simp [okIns, okIn, okIns_ints], by simp [AObj.born, okIns, okIn, AObj.cells, okIns_ints]⟩)
  · have hiw : i = w.toNat := by omega
    subst hiw
    simp (maxSteps := 2000000) only [↓vP0, vQ0, vT0, simprocAttr]
    exact exit_keep (L1 := pix2L p q) ⟨by rw [rowT, hall], rfl⟩ trivial (pix2_keep p q)
end Go.Proofs.Ytbfefpkhalegmaa

set_option linter.unusedVariables false
set_option linter.unusedSimpArgs false
namespace Go.Proofs.Ytbfefpkhalegmaa
open Go
set_option maxHeartbeats 4000000
set_option maxRecDepth 20000

abbrev regC (t dx dy : Int) (ty : Bool) (kd : Int) (w v w' v' : Int) (a m b n : Nat) : List AV := [.int .i64 t, .int .i64 dx, .int .i64 dy, .bool ty, .int .i64 kd, .int .i64 w, .int .i64 v, .slice a 0 m, .int .i64 w', .int .i64 v', .slice b 0 n]
abbrev regL (t dx dy : Int) (ty : Bool) (kd : Int) (w v w' v' : Int) (p q : List Int) : List AObj := [.own (regC t dx dy ty kd w v w' v' 1 p.length 2 q.length) 142, .ro (ints .u8 p) 5, .ro (ints .u8 q) 5]
theorem reg_keep (t dx dy : Int) (ty : Bool) (kd : Int) (w v w' v' : Int) (p q : List Int) : keepL 3 (regL t dx dy ty kd w v w' v' p q) (regL t dx dy ty kd w v w' v' p q) := by
  simp [keepL, keepO, okIns, okIn, okIns_ints]

theorem c_flat (t dx dy : Int) (ty : Bool) (kd : Int) (ho : OffOk dx dy) (w v w' v' : Int) (p q : List Int) (hr : BmOk w' v' q) (x y : Int) (hx : Small x) (hy : Small y) :
    LCall Try.prog 90 [.ptr 0 0, .int .i64 x, .int .i64 y] (regL t dx dy ty kd w v w' v' p q) fun r L =>
      r = .tup [.int .u8 (flatC dx dy w' v' q x y), .bool (flatB dx dy w' v' q x y)] ∧ L = regL t dx dy ty kd w v w' v' p q := by
  have hbb := hr
  obtain ⟨⟨b0, b1, b2, b3, b4⟩, hl⟩ := hbb
  obtain ⟨o0, o1, o2, o3⟩ := ho
  obtain ⟨x0, x1⟩ := hx
  obtain ⟨y0, y1⟩ := hy
  refine lcall_of_vc tyok Try.func90 rfl (by rfl) Try.results90 Try.ntmps90 ?_; intro C hD
  simp (maxSteps := 2000000) only [↓vP0, vQ0, vT0, simprocAttr]
  refine drawK_of tyok rfl (usL []) (fun i => .below 0) (by kernel_rfl) ?_
  simp (maxSteps := 2000000) only [↓vP0, vQ0, vT0, simprocAttr]
  simp (disch := omega) only [wr64, wru64, wru8, tdv, tmd, fdv]
  refine callK_read (c_at w' v' q hr (x - dx) (y - dy)) [2] ?_ ?_ ?_ rfl ?_
  · simp [ren, rens, sg, sig, okIn, okIns, exK, leK, leF, leV, matK, objM, renO, roSame, lh, born, AObj.born, AObj.live, injOk, kindOf, rens_ints, okIns_ints, List.range, List.range.loop, mrg, mset]
  · simp [ren, rens, sg, sig, okIn, okIns, exK, leK, leF, leV, matK, objM, renO, roSame, lh, born, AObj.born, AObj.live, injOk, kindOf, rens_ints, okIns_ints, List.range, List.range.loop, mrg, mset]
  · simp [ren, rens, sg, sig, okIn, okIns, exK, leK, leF, leV, matK, objM, renO, roSame, lh, born, AObj.born, AObj.live, injOk, kindOf, rens_ints, okIns_ints, List.range, List.range.loop, mrg, mset]
  simp (maxSteps := 2000000) only [↓vP0, vQ0, vT0, simprocAttr]
  refine loopK_of tyok hD (α := Nat) (fun i => i ≤ 9 ∧ (List.range i).all (nine dx dy w' v' q x y) = true) (fun i => 9 - i) (fun i => [.ptr 0 0, .int .i64 x, .int .i64 y, .junk, .junk, .junk, .junk, .junk, .int .u8 (pixAt w' v' q (x - dx) (y - dy)), .junk, .junk, .junk, .junk, .junk, .junk, .junk, .junk, .junk, .junk, .junk, .junk, .junk, .junk, .junk, .junk, .junk, .junk, .junk, .junk, .int .i64 i, .junk, .junk, .junk, .junk, .junk, .junk, .junk, .junk, .junk, .junk, .junk, .junk, .junk, .junk, .junk, .junk, .junk, .junk, .junk, .junk, .junk, .junk, .junk, .junk, .junk, .junk, .junk, .junk, .junk, .junk, .junk, .junk, .junk])
    (fun i => regL t dx dy ty kd w v w' v' p q) 0 ⟨by omega, by simp⟩ ?_ ?_
  · (refine ⟨by simp [leF, leV] <;> rfl, ⟨_, by first | rfl | exact (List.append_nil _).symm⟩, by simp, by simp [okIns, okIn, okIns_ints], by simp [AObj.born, okIns, okIn, AObj.cells, okIns_ints]⟩)
  rintro i ⟨hi, hall⟩
  simp (maxSteps := 2000000) only [↓vP0, vQ0, vT0, simprocAttr]
  (with_reducible first | refine condK_dec (fun h => ?_) (fun h => ?_) | refine condK_beq (fun h => ?_) (fun h => ?_) | refine condK_bne (fun h => ?_) (fun h => ?_) | refine condK_intro (fun h => ?_) (fun h => ?_))
  · have hi9 : i < 9 := by omega
    simp (maxSteps := 2000000) only [↓vP0, vQ0, vT0, simprocAttr]
    refine drawK_of tyok rfl (usL []) (fun i => .below 0) (by kernel_rfl) ?_
    simp (maxSteps := 2000000) only [↓vP0, vQ0, vT0, simprocAttr]
    simp (disch := omega) only [wr64, wru64, wru8, tdv, tmd, fdv]
    refine callK_read (c_at w' v' q hr (x - dx + (i : Int) % 3 - 1) (y - dy + (i : Int) / 3 - 1)) [2] ?_ ?_ ?_ rfl ?_
    · simp [ren, rens, sg, sig, okIn, okIns, exK, leK, leF, leV, matK, objM, renO, roSame, lh, born, AObj.born, AObj.live, injOk, kindOf, rens_ints, okIns_ints, List.range, List.range.loop, mrg, mset]
    · simp [ren, rens, sg, sig, okIn, okIns, exK, leK, leF, leV, matK, objM, renO, roSame, lh, born, AObj.born, AObj.live, injOk, kindOf, rens_ints, okIns_ints, List.range, List.range.loop, mrg, mset]
    · simp [ren, rens, sg, sig, okIn, okIns, exK, leK, leF, leV, matK, objM, renO, roSame, lh, born, AObj.born, AObj.live, injOk, kindOf, rens_ints, okIns_ints, List.range, List.range.loop, mrg, mset]
    by_cases he : pixAt w' v' q (x - dx + (i : Int) % 3 - 1) (y - dy + (i : Int) / 3 - 1) = pixAt w' v' q (x - dx) (y - dy)
    · have e3 : (pixAt w' v' q (x - dx + (i : Int) % 3 - 1) (y - dy + (i : Int) / 3 - 1) != pixAt w' v' q (x - dx) (y - dy)) = false := by rw [he]; simp
      simp (maxSteps := 2000000) only [↓vP0, vQ0, vT0, simprocAttr, e3]
      simp (disch := omega) only [wr64, wru64, wru8, tdv, tmd, fdv]
      refine ⟨i + 1, ⟨by omega, range_succ_all hall (by simpa only [nine, beq_iff_eq] using he)⟩, by omega, ?_⟩
      simp only [Int.natCast_add, Int.cast_ofNat_Int]
      (refine ⟨by simp [leF, leV] <;> rfl, ⟨_, by first | rfl | exact (List.append_nil _).symm⟩, by simp, by simp [okIns, okIn, okIns_ints], by simp [AObj.born, okIns, okIn, AObj.cells, okIns_ints]⟩)
    · have e3 : (pixAt w' v' q (x - dx + (i : Int) % 3 - 1) (y - dy + (i : Int) / 3 - 1) != pixAt w' v' q (x - dx) (y - dy)) = true := by simpa only [bne_iff_ne] using he
      have hf : flatB dx dy w' v' q x y = false := range_all_false hi9 (by simpa only [nine, beq_eq_false_iff_ne] using he)
      simp (maxSteps := 2000000) only [↓vP0, vQ0, vT0, simprocAttr, e3]
      exact exit_keep (L1 := regL t dx dy ty kd w v w' v' p q) ⟨by rw [flatC, hf]; rfl, rfl⟩ ⟨trivial, trivial, trivial⟩ (reg_keep ..)
  · have hi9 : i = 9 := by omega
    subst hi9
    have hf : flatB dx dy w' v' q x y = true := hall
    simp (maxSteps := 2000000) only [↓vP0, vQ0, vT0, simprocAttr]
    exact exit_keep (L1 := regL t dx dy ty kd w v w' v' p q) ⟨by rw [flatC, hf]; rfl, rfl⟩ ⟨trivial, trivial, trivial⟩ (reg_keep ..)

theorem c_typical (t dx dy : Int) (ty : Bool) (kd : Int) (ho : OffOk dx dy) (w v w' v' : Int) (p q : List Int) (hb : BmOk w v p) (hr : BmOk w' v' q) (y : Int) (hy : Small y) :
    LCall Try.prog 89 [.ptr 0 0, .int .i64 y] (regL t dx dy ty kd w v w' v' p q) fun r L =>
      r = .bool (rowT dx dy w v p w' v' q y) ∧ L = regL t dx dy ty kd w v w' v' p q := by
  have hbb := hb
  obtain ⟨⟨b0, b1, b2, b3, b4⟩, hl⟩ := hbb
  refine lcall_of_vc tyok Try.func89 rfl (by rfl) Try.results89 Try.ntmps89 ?_; intro C hD
  simp (maxSteps := 2000000) only [↓vP0, vQ0, vT0, simprocAttr]
  refine loopK_of tyok hD (α := Nat) (fun i => (i : Int) ≤ w ∧ (List.range i).all (likeB dx dy w v p w' v' q y) = true) (fun i => w.toNat - i) (fun i => [.ptr 0 0, .int .i64 y, .junk, .junk, .junk, .junk, .junk, .junk, .junk, .junk, .junk, .junk, .int .i64 w, .int .i64 i, .junk, .junk, .junk, .junk, .junk, .junk, .junk, .junk, .junk, .junk, .junk, .junk, .junk, .junk, .junk, .junk, .junk, .junk, .junk, .junk, .junk, .junk])
    (fun i => regL t dx dy ty kd w v w' v' p q) 0 ⟨by omega, by simp⟩ ?_ ?_
  · (refine ⟨by simp [leF, leV] <;> rfl, ⟨_, by first | rfl | exact (List.append_nil _).symm⟩, by simp, by simp [okIns, okIn, okIns_ints], by simp [AObj.born, okIns, okIn, AObj.cells, okIns_ints]⟩)
  rintro i ⟨hi, hall⟩
  simp (maxSteps := 2000000) only [↓vP0, vQ0, vT0, simprocAttr]
  (with_reducible first | refine condK_dec (fun h => ?_) (fun h => ?_) | refine condK_beq (fun h => ?_) (fun h => ?_) | refine condK_bne (fun h => ?_) (fun h => ?_) | refine condK_intro (fun h => ?_) (fun h => ?_))
  · have hiw : i < w.toNat := by omega
    simp (maxSteps := 2000000) only [↓vP0, vQ0, vT0, simprocAttr]
    refine callK_read (c_flat t dx dy ty kd ho w v w' v' p q hr i y ⟨by omega, by omega⟩ hy) [0, 1, 2] ?_ ?_ ?_ rfl ?_
    · simp [ren, rens, sg, sig, okIn, okIns, exK, leK, leF, leV, matK, objM, renO, roSame, lh, born, AObj.born, AObj.live, injOk, kindOf, rens_ints, okIns_ints, List.range, List.range.loop, mrg, mset]
    · simp [ren, rens, sg, sig, okIn, okIns, exK, leK, leF, leV, matK, objM, renO, roSame, lh, born, AObj.born, AObj.live, injOk, kindOf, rens_ints, okIns_ints, List.range, List.range.loop, mrg, mset]
    · simp [ren, rens, sg, sig, okIn, okIns, exK, leK, leF, leV, matK, objM, renO, roSame, lh, born, AObj.born, AObj.live, injOk, kindOf, rens_ints, okIns_ints, List.range, List.range.loop, mrg, mset]
    by_cases hf : flatB dx dy w' v' q i y = true
    · simp (maxSteps := 2000000) only [↓vP0, vQ0, vT0, simprocAttr, hf]
      refine callK_read (c_at w v p hb i y) [1] ?_ ?_ ?_ rfl ?_
      · simp [ren, rens, sg, sig, okIn, okIns, exK, leK, leF, leV, matK, objM, renO, roSame, lh, born, AObj.born, AObj.live, injOk, kindOf, rens_ints, okIns_ints, List.range, List.range.loop, mrg, mset]
      · simp [ren, rens, sg, sig, okIn, okIns, exK, leK, leF, leV, matK, objM, renO, roSame, lh, born, AObj.born, AObj.live, injOk, kindOf, rens_ints, okIns_ints, List.range, List.range.loop, mrg, mset]
      · simp [ren, rens, sg, sig, okIn, okIns, exK, leK, leF, leV, matK, objM, renO, roSame, lh, born, AObj.born, AObj.live, injOk, kindOf, rens_ints, okIns_ints, List.range, List.range.loop, mrg, mset]
      by_cases he : flatC dx dy w' v' q i y = pixAt w v p i y
      · have e3 : (flatC dx dy w' v' q i y != pixAt w v p i y) = false := by rw [he]; simp
        simp (maxSteps := 2000000) only [↓vP0, vQ0, vT0, simprocAttr, e3]
        simp (disch := omega) only [wr64, wru64, wru8, tdv, tmd, fdv]
        refine ⟨i + 1, ⟨by omega, range_succ_all hall (by simp only [likeB, he, beq_self_eq_true, Bool.or_true])⟩, by omega, ?_⟩
        simp only [Int.natCast_add, Int.cast_ofNat_Int]
        (refine ⟨by simp [leF, leV] <;> rfl, ⟨_, by first | rfl | exact (List.append_nil _).symm⟩, by simp, by simp [okIns, okIn, okIns_ints], by simp [AObj.born, okIns, okIn, AObj.cells, okIns_ints]⟩)
      · have e3 : (flatC dx dy w' v' q i y != pixAt w v p i y) = true := by simpa only [bne_iff_ne] using he
        have e4 : (pixAt w v p i y == flatC dx dy w' v' q i y) = false := by simpa only [beq_eq_false_iff_ne] using fun e => he e.symm
        simp (maxSteps := 2000000) only [↓vP0, vQ0, vT0, simprocAttr, e3]
        exact exit_keep (L1 := regL t dx dy ty kd w v w' v' p q) ⟨by rw [rowT, range_all_false hiw (by simp only [likeB, hf, e4]; rfl)], rfl⟩ trivial (reg_keep ..)
    · have hf : flatB dx dy w' v' q i y = false := by simpa using hf
      simp (maxSteps := 2000000) only [↓vP0, vQ0, vT0, simprocAttr, hf]
      simp (disch := omega) only [wr64, wru64, wru8, tdv, tmd, fdv]
      refine ⟨i + 1, ⟨by omega, range_succ_all hall (by simp only [likeB, hf]; rfl)⟩, by omega, ?_⟩
      simp only [Int.natCast_add, Int.cast_ofNat_Int]
      (refine ⟨by simp [leF, leV] <;> rfl, ⟨_, by first | rfl | exact (List.append_nil _).symm⟩, by simp, by simp [okIns, okIn, okIns_ints], by simp [AObj.born, okIns, okIn, AObj.cells, okIns_ints]⟩)
  · have hiw : i = w.toNat := by omega
    subst hiw
    simp (maxSteps := 2000000) only [↓vP0, vQ0, vT0, simprocAttr]
    exact exit_keep (L1 := regL t dx dy ty kd w v w' v' p q) ⟨by rw [rowT, hall], rfl⟩ trivial (reg_keep ..)

theorem c_newRegion (t dx dy : Int) (ty : Bool) (kd : Int) (w v w' v' : Int) (p q : List Int) :
    LCall Try.prog 88 [optV t dx dy ty kd, .int .i64 w, .int .i64 v, .slice 0 0 p.length, bmV w' v' 1 q.length] (pix2L p q) fun r L =>
      r = .ptr 2 0 ∧ L = pix2L p q ++ [.own (regC t dx dy ty kd w v w' v' 0 p.length 1 q.length) 142] := by
  refine lcall_of_vc tyok Try.func88 rfl (by rfl) Try.results88 Try.ntmps88 ?_; intro C hD
  simp (maxSteps := 2000000) only [↓vP0, vQ0, vT0, simprocAttr]
  refine exit_of [4] (.ptr 2 0) (pix2L p q ++ [.own (regC t dx dy ty kd w v w' v' 0 p.length 1 q.length) 142]) ⟨rfl, rfl⟩ ?_ ?_ rfl ?_ ?_
  all_goals simp [ren, rens, sg, sig, okIn, okIns, exK, leK, leF, leV, matK, objM, renO, roSame, lh, born, AObj.born, AObj.live, injOk, kindOf, rens_ints, okIns_ints, List.range, List.range.loop, mrg, mset]
end Go.Proofs.Ytbfefpkhalegmaa

set_option linter.unusedVariables false
set_option linter.unusedSimpArgs false
namespace Go.Proofs.Ytbfefpkhalegmaa
open Go

def offF : List (Int × Int) → List AV
  | [] => []
  | (a, b) :: l => .int .i64 a :: .int .i64 b :: offF l
theorem offF_len : ∀ l : List (Int × Int), (offF l).length = l.length * 2
  | [] => rfl
  | (a, b) :: l => by simp [offF, offF_len l]; omega
theorem offF_drop : ∀ (l : List (Int × Int)) (i : Nat), (offF l).drop (i * 2) = offF (l.drop i)
  | l, 0 => by simp
  | [], i + 1 => by simp [offF]
  | (a, b) :: l, i + 1 => by
    rw [show (i + 1) * 2 = i * 2 + 2 by omega]
    simp [offF, offF_drop l i]
theorem offF_get (l : List (Int × Int)) (i : Nat) (h : i < l.length) : ((offF l).drop (i * 2)).take 2 = [.int .i64 (l.getD i (0, 0)).1, .int .i64 (l.getD i (0, 0)).2] := by
  rw [offF_drop, List.drop_eq_getElem_cons h]
  have : l.getD i (0, 0) = l[i] := by simp [List.getD_eq_getElem?_getD, List.getElem?_eq_getElem h]
  rw [this]
  obtain ⟨c, b⟩ := l[i]
  simp [offF]
theorem offF_plain : ∀ l : List (Int × Int), plainVs (offF l) = true
  | [] => rfl
  | (a, b) :: l => by simpa [offF, plainVs, plainV] using offF_plain l
theorem offF_rens (σ : Nat → Nat) (l : List (Int × Int)) : rens σ (offF l) = offF l := rens_plain _ _ (offF_plain l)
theorem offF_okIns (B : Nat → Prop) (l : List (Int × Int)) : okIns B (offF l) = True := by simp [okIns_plain B _ (offF_plain l)]

abbrev PixOk (p : List Int) : Prop := ∀ z ∈ p, z = 0 ∨ z = 1
theorem pix01 {p : List Int} (hp : PixOk p) (w v x y : Int) : pixAt w v p x y = 0 ∨ pixAt w v p x y = 1 := by
  unfold pixAt
  split
  · exact .inl rfl
  · by_cases hi : (y * w + x).toNat < p.length
    · rw [show p.getD (y * w + x).toNat 0 = p[(y * w + x).toNat] by simp [List.getD_eq_getElem?_getD, List.getElem?_eq_getElem hi]]
      exact hp _ (List.getElem_mem hi)
    · left; simp [List.getD_eq_getElem?_getD, List.getElem?_eq_none (Nat.le_of_not_lt hi)]
def accP (w v : Int) (p : List Int) (x y : Int) (l : List (Int × Int)) (n : Int) : Int := l.foldl (fun n d => 2 * n + pixAt w v p (x + d.1) (y + d.2)) n
theorem accP_snoc (w v : Int) (p : List Int) (x y : Int) (l : List (Int × Int)) (n : Int) (i : Nat) (h : i < l.length) :
    accP w v p x y (l.take (i + 1)) n = 2 * accP w v p x y (l.take i) n + pixAt w v p (x + (l.getD i (0, 0)).1) (y + (l.getD i (0, 0)).2) := by
  have : l.getD i (0, 0) = l[i] := by simp [List.getD_eq_getElem?_getD, List.getElem?_eq_getElem h]
  rw [this, List.take_succ_eq_append_getElem h]
  unfold accP
  rw [List.foldl_append]
  rfl
theorem accP_bd (w v : Int) (p : List Int) (hp : PixOk p) (x y : Int) : ∀ (l : List (Int × Int)) (n : Int), 0 ≤ n → 0 ≤ accP w v p x y l n ∧ accP w v p x y l n + 1 ≤ 2 ^ l.length * (n + 1)
  | [], n, h => by simp [accP]; omega
  | d :: l, n, h => by
    have h1 := pix01 hp w v (x + d.1) (y + d.2)
    have h2 : 0 ≤ 2 * n + pixAt w v p (x + d.1) (y + d.2) := by omega
    obtain ⟨a, b⟩ := accP_bd w v p hp x y l _ h2
    refine ⟨a, ?_⟩
    have e : accP w v p x y (d :: l) n = accP w v p x y l (2 * n + pixAt w v p (x + d.1) (y + d.2)) := rfl
    rw [e]
    refine Int.le_trans b ?_
    rw [List.length_cons, Int.pow_succ, Int.mul_assoc]
    exact Int.mul_le_mul_of_nonneg_left (by omega) (Int.le_of_lt (Int.pow_pos (by omega)))
theorem accP_le {w v : Int} {p : List Int} (hp : PixOk p) {x y : Int} {l : List (Int × Int)} {n : Int} (h0 : 0 ≤ n) (h1 : n ≤ 15) (hl : l.length ≤ 5) : 0 ≤ accP w v p x y l n ∧ accP w v p x y l n ≤ 511 := by
  obtain ⟨a, b⟩ := accP_bd w v p hp x y l n h0
  refine ⟨a, ?_⟩
  generalize l.length = k at *
  have : k = 0 ∨ k = 1 ∨ k = 2 ∨ k = 3 ∨ k = 4 ∨ k = 5 := by omega
  rcases this with rfl | rfl | rfl | rfl | rfl | rfl <;> simp at b <;> omega
def freshP (t : Int) : List (Int × Int) := if t = 0 then [(-1, -1), (0, -1), (1, -1), (-1, 0)] else [(0, -1), (-1, 0)]
def besideP : List (Int × Int) := [(0, 0), (-1, 0), (1, 0), (0, -1), (0, 1)]
theorem off_bd {l : List (Int × Int)} (h : l.all (fun d => decide (-1 ≤ d.1 ∧ d.1 ≤ 1 ∧ -1 ≤ d.2 ∧ d.2 ≤ 1)) = true) (i : Nat) :
    -1 ≤ (l.getD i (0, 0)).1 ∧ (l.getD i (0, 0)).1 ≤ 1 ∧ -1 ≤ (l.getD i (0, 0)).2 ∧ (l.getD i (0, 0)).2 ≤ 1 := by
  by_cases hi : i < l.length
  · have e : l.getD i (0, 0) = l[i] := by simp [List.getD_eq_getElem?_getD, List.getElem?_eq_getElem hi]
    rw [e]
    exact of_decide_eq_true (List.all_eq_true.1 h _ (List.getElem_mem hi))
  · simp [List.getD_eq_getElem?_getD, List.getElem?_eq_none (Nat.le_of_not_lt hi)]
def ctxOf (t dx dy w v : Int) (p : List Int) (w' v' : Int) (q : List Int) (x y : Int) : Int :=
  accP w' v' q (x - dx) (y - dy) besideP (accP w v p x y (freshP t) 0)
theorem fresh_le {w v : Int} {p : List Int} (hp : PixOk p) (t x y : Int) : 0 ≤ accP w v p x y (freshP t) 0 ∧ accP w v p x y (freshP t) 0 ≤ 15 ∧ (t = 1 → accP w v p x y (freshP t) 0 ≤ 3) := by
  obtain ⟨a, b⟩ := accP_bd w v p hp x y (freshP t) 0 (by omega)
  refine ⟨a, ?_⟩
  unfold freshP at *
  split at b
  · rename_i h; subst h; simp at b ⊢; omega
  · rename_i h; rw [if_neg h] at *; simp at b; omega
theorem ctx_bd {w v w' v' : Int} {p q : List Int} (hp : PixOk p) (hq : PixOk q) (t dx dy x y : Int) (ht : t = 0 ∨ t = 1) : 0 ≤ ctxOf t dx dy w v p w' v' q x y ∧ ctxOf t dx dy w v p w' v' q x y < (if t = 0 then 512 else 128) := by
  obtain ⟨a, b, c⟩ := fresh_le (w := w) (v := v) hp t x y
  obtain ⟨d, e⟩ := accP_bd w' v' q hq (x - dx) (y - dy) besideP _ a
  refine ⟨d, ?_⟩
  unfold ctxOf
  simp [besideP] at e ⊢
  split
  · omega
  · have := c (by omega); omega
end Go.Proofs.Ytbfefpkhalegmaa

set_option linter.unusedVariables false
set_option linter.unusedSimpArgs false
namespace Go.Proofs.Ytbfefpkhalegmaa
open Go
set_option maxHeartbeats 4000000
set_option maxRecDepth 20000

theorem c_rContext0 (dx dy : Int) (ty : Bool) (kd : Int) (ho : OffOk dx dy) (w v w' v' : Int) (p q : List Int) (hb : BmOk w v p) (hr : BmOk w' v' q) (hp : PixOk p) (hq : PixOk q) (x y : Int) (hx : Small x) (hy : Small y) :
    LCall Try.prog 63 [optV 0 dx dy ty kd, bmV w v 0 p.length, bmV w' v' 1 q.length, .int .i64 x, .int .i64 y] (pix2L p q) fun r L =>
      r = .int .i64 (ctxOf 0 dx dy w v p w' v' q x y) ∧ L = pix2L p q := by
  obtain ⟨o0, o1, o2, o3⟩ := ho
  obtain ⟨x0, x1⟩ := hx
  obtain ⟨y0, y1⟩ := hy
  have hfl := fresh_le (w := w) (v := v) hp 0 x y
  refine lcall_of_vc tyok Try.func63 rfl (by rfl) Try.results63 Try.ntmps63 ?_; intro C hD
  simp (maxSteps := 2000000) only [↓vP0, vQ0, vT0, simprocAttr]
  refine loopK_of tyok hD (α := Nat) (fun i => i ≤ 4) (fun i => 4 - i) (fun i => [.junk, .junk, .junk, .int .i64 x, .int .i64 y, .ptr 2 0, .ptr 3 0, .ptr 4 0, .junk, .junk, .junk, .junk, .int .i64 (accP w v p x y ((freshP 0).take i) 0), .junk, .junk, .junk, .junk, .junk, .junk, .junk, .junk, .junk, .junk, .junk, .junk, .junk, .junk, .junk, .slice 5 0 4, .int .i64 4, .int .i64 i, .junk, .junk, .junk, .junk, .junk, .junk, .junk, .junk, .junk, .junk, .junk, .junk, .junk, .junk, .junk, .junk, .junk, .junk, .junk, .junk, .junk, .junk, .junk, .junk, .junk, .junk, .junk, .junk, .junk, .junk, .junk, .junk, .junk, .junk, .junk, .junk, .junk, .junk, .junk, .junk, .junk, .junk, .junk, .junk, .junk, .junk, .junk, .junk, .junk, .junk, .junk])
    (fun i => pix2L p q ++ [optC 0 dx dy ty kd, bmC w v 0 p.length, bmC w' v' 1 q.length] ++ [.own (offF (freshP 0)) 162]) 0 (by omega) ?_ ?_
  · (refine ⟨by simp [leF, leV] <;> rfl, ⟨_, by first | rfl | exact (List.append_nil _).symm⟩, by simp, by simp [okIns, okIn, okIns_ints, offF_okIns], by simp [AObj.born, okIns, okIn, AObj.cells, okIns_ints, offF_okIns]⟩)
  intro i hi
  simp (maxSteps := 2000000) only [↓vP0, vQ0, vT0, simprocAttr]
  (with_reducible first | refine condK_dec (fun h => ?_) (fun h => ?_) | refine condK_beq (fun h => ?_) (fun h => ?_) | refine condK_bne (fun h => ?_) (fun h => ?_) | refine condK_intro (fun h => ?_) (fun h => ?_))
  · have hi4 : i < 4 := by omega
    have hil : i < (freshP 0).length := hi4
    have g1 := offF_get (freshP 0) i hil
    have hlen := offF_len (freshP 0)
    have hl4 : (freshP 0).length = 4 := rfl
    have hd := off_bd (l := freshP 0) rfl i
    have ha := accP_le (w := w) (v := v) hp (x := x) (y := y) (l := (freshP 0).take i) (n := 0) (by omega) (by omega) (by rw [List.length_take]; omega)
    have hpx := pix01 hp w v (x + ((freshP 0).getD i (0, 0)).1) (y + ((freshP 0).getD i (0, 0)).2)
    simp (maxSteps := 2000000) only [↓vP0, vQ0, vT0, simprocAttr]
    refine chk_intro (by omega) ?_
    simp (maxSteps := 2000000) only [↓vP0, vQ0, vT0, simprocAttr, g1]
    refine chk_intro (by omega) ?_
    simp (maxSteps := 2000000) only [↓vP0, vQ0, vT0, simprocAttr, g1]
    simp (disch := omega) only [wr64, wru64, wru8, tdv, tmd, fdv]
    refine callK_read (c_rPix w v p hb (x + ((freshP 0).getD i (0, 0)).1) (y + ((freshP 0).getD i (0, 0)).2)) [0] ?_ ?_ ?_ rfl ?_
    · simp [ren, rens, sg, sig, okIn, okIns, exK, leK, leF, leV, matK, objM, renO, roSame, lh, born, AObj.born, AObj.live, injOk, kindOf, rens_ints, okIns_ints, List.range, List.range.loop, mrg, mset]
    · simp [ren, rens, sg, sig, okIn, okIns, exK, leK, leF, leV, matK, objM, renO, roSame, lh, born, AObj.born, AObj.live, injOk, kindOf, rens_ints, okIns_ints, List.range, List.range.loop, mrg, mset]
    · simp [ren, rens, sg, sig, okIn, okIns, exK, leK, leF, leV, matK, objM, renO, roSame, lh, born, AObj.born, AObj.live, injOk, kindOf, rens_ints, okIns_ints, List.range, List.range.loop, mrg, mset]
    simp (maxSteps := 2000000) only [↓vP0, vQ0, vT0, simprocAttr]
    simp (disch := omega) only [wr64, wru64, wru8, tdv, tmd, fdv]
    refine ⟨i + 1, by omega, by omega, ?_⟩
    rw [accP_snoc _ _ _ _ _ _ _ _ hil]
    simp only [Int.natCast_add, Int.cast_ofNat_Int]
    (refine ⟨by simp [leF, leV] <;> rfl, ⟨_, by first | rfl | exact (List.append_nil _).symm⟩, by simp, by simp [okIns, okIn, okIns_ints, offF_okIns], by simp [AObj.born, okIns, okIn, AObj.cells, okIns_ints, offF_okIns]⟩)
  · have hi4 : i = 4 := by omega
    subst hi4
    have e4 : (freshP 0).take 4 = freshP 0 := rfl
    simp (maxSteps := 2000000) only [↓vP0, vQ0, vT0, simprocAttr, e4]
    refine loopK_of tyok hD (α := Nat) (fun i => i ≤ 5) (fun i => 5 - i) (fun i => [.junk, .junk, .junk, .int .i64 x, .int .i64 y, .ptr 2 0, .junk, .ptr 4 0, .junk, .junk, .junk, .junk, .int .i64 (accP w' v' q (x - dx) (y - dy) (besideP.take i) (accP w v p x y (freshP 0) 0)), .junk, .junk, .junk, .junk, .junk, .junk, .junk, .junk, .junk, .junk, .junk, .junk, .junk, .junk, .junk, .junk, .junk, .junk, .junk, .junk, .junk, .junk, .junk, .junk, .junk, .junk, .junk, .junk, .junk, .junk, .junk, .junk, .junk, .junk, .junk, .junk, .junk, .junk, .junk, .junk, .junk, .slice 6 0 5, .int .i64 5, .int .i64 i, .junk, .junk, .junk, .junk, .junk, .junk, .junk, .junk, .junk, .junk, .junk, .junk, .junk, .junk, .junk, .junk, .junk, .junk, .junk, .junk, .junk, .junk, .junk, .junk, .junk])
      (fun i => pix2L p q ++ [optC 0 dx dy ty kd, bmC w v 0 p.length, bmC w' v' 1 q.length] ++ [.own (offF (freshP 0)) 162] ++ [.own (offF besideP) 162]) 0 (by omega) ?_ ?_
    · (refine ⟨by simp [leF, leV] <;> rfl, ⟨_, by first | rfl | exact (List.append_nil _).symm⟩, by simp, by simp [okIns, okIn, okIns_ints, offF_okIns], by simp [AObj.born, okIns, okIn, AObj.cells, okIns_ints, offF_okIns]⟩)
    intro i hi
    simp (maxSteps := 2000000) only [↓vP0, vQ0, vT0, simprocAttr]
    (with_reducible first | refine condK_dec (fun h => ?_) (fun h => ?_) | refine condK_beq (fun h => ?_) (fun h => ?_) | refine condK_bne (fun h => ?_) (fun h => ?_) | refine condK_intro (fun h => ?_) (fun h => ?_))
    · have hi4 : i < 5 := by omega
      have hil : i < besideP.length := hi4
      have g1 := offF_get besideP i hil
      have hlen := offF_len besideP
      have hl4 : besideP.length = 5 := rfl
      have hd := off_bd (l := besideP) rfl i
      have ha := accP_le (w := w') (v := v') hq (x := x - dx) (y := y - dy) (l := besideP.take i) (n := accP w v p x y (freshP 0) 0) hfl.1 hfl.2.1 (by rw [List.length_take]; omega)
      have hpx := pix01 hq w' v' (x - dx + (besideP.getD i (0, 0)).1) (y - dy + (besideP.getD i (0, 0)).2)
      simp (maxSteps := 2000000) only [↓vP0, vQ0, vT0, simprocAttr]
      refine chk_intro (by omega) ?_
      simp (maxSteps := 2000000) only [↓vP0, vQ0, vT0, simprocAttr, g1]
      refine chk_intro (by omega) ?_
      simp (maxSteps := 2000000) only [↓vP0, vQ0, vT0, simprocAttr, g1]
      simp (disch := omega) only [wr64, wru64, wru8, tdv, tmd, fdv]
      refine callK_read (c_rPix w' v' q hr (x - dx + (besideP.getD i (0, 0)).1) (y - dy + (besideP.getD i (0, 0)).2)) [1] ?_ ?_ ?_ rfl ?_
      · simp [ren, rens, sg, sig, okIn, okIns, exK, leK, leF, leV, matK, objM, renO, roSame, lh, born, AObj.born, AObj.live, injOk, kindOf, rens_ints, okIns_ints, List.range, List.range.loop, mrg, mset]
      · simp [ren, rens, sg, sig, okIn, okIns, exK, leK, leF, leV, matK, objM, renO, roSame, lh, born, AObj.born, AObj.live, injOk, kindOf, rens_ints, okIns_ints, List.range, List.range.loop, mrg, mset]
      · simp [ren, rens, sg, sig, okIn, okIns, exK, leK, leF, leV, matK, objM, renO, roSame, lh, born, AObj.born, AObj.live, injOk, kindOf, rens_ints, okIns_ints, List.range, List.range.loop, mrg, mset]
      simp (maxSteps := 2000000) only [↓vP0, vQ0, vT0, simprocAttr]
      simp (disch := omega) only [wr64, wru64, wru8, tdv, tmd, fdv]
      refine ⟨i + 1, by omega, by omega, ?_⟩
      rw [accP_snoc _ _ _ _ _ _ _ _ hil]
      simp only [Int.natCast_add, Int.cast_ofNat_Int]
      (refine ⟨by simp [leF, leV] <;> rfl, ⟨_, by first | rfl | exact (List.append_nil _).symm⟩, by simp, by simp [okIns, okIn, okIns_ints, offF_okIns], by simp [AObj.born, okIns, okIn, AObj.cells, okIns_ints, offF_okIns]⟩)
    · have hi4 : i = 5 := by omega
      subst hi4
      have e5 : besideP.take 5 = besideP := rfl
      simp (maxSteps := 2000000) only [↓vP0, vQ0, vT0, simprocAttr, e5]
      exact exit_keep (L1 := pix2L p q) ⟨rfl, rfl⟩ trivial (pix2_keep p q)
theorem c_rContext1 (dx dy : Int) (ty : Bool) (kd : Int) (ho : OffOk dx dy) (w v w' v' : Int) (p q : List Int) (hb : BmOk w v p) (hr : BmOk w' v' q) (hp : PixOk p) (hq : PixOk q) (x y : Int) (hx : Small x) (hy : Small y) :
    LCall Try.prog 63 [optV 1 dx dy ty kd, bmV w v 0 p.length, bmV w' v' 1 q.length, .int .i64 x, .int .i64 y] (pix2L p q) fun r L =>
      r = .int .i64 (ctxOf 1 dx dy w v p w' v' q x y) ∧ L = pix2L p q := by
  obtain ⟨o0, o1, o2, o3⟩ := ho
  obtain ⟨x0, x1⟩ := hx
  obtain ⟨y0, y1⟩ := hy
  have hfl := fresh_le (w := w) (v := v) hp 1 x y
  refine lcall_of_vc tyok Try.func63 rfl (by rfl) Try.results63 Try.ntmps63 ?_; intro C hD
  simp (maxSteps := 2000000) only [↓vP0, vQ0, vT0, simprocAttr]
  refine loopK_of tyok hD (α := Nat) (fun i => i ≤ 2) (fun i => 2 - i) (fun i => [.junk, .junk, .junk, .int .i64 x, .int .i64 y, .ptr 2 0, .ptr 3 0, .ptr 4 0, .junk, .junk, .junk, .junk, .int .i64 (accP w v p x y ((freshP 1).take i) 0), .junk, .junk, .junk, .junk, .junk, .junk, .junk, .junk, .junk, .junk, .junk, .junk, .junk, .junk, .junk, .slice 6 0 2, .int .i64 2, .int .i64 i, .junk, .junk, .junk, .junk, .junk, .junk, .junk, .junk, .junk, .junk, .junk, .junk, .junk, .junk, .junk, .junk, .junk, .junk, .junk, .junk, .junk, .junk, .junk, .junk, .junk, .junk, .junk, .junk, .junk, .junk, .junk, .junk, .junk, .junk, .junk, .junk, .junk, .junk, .junk, .junk, .junk, .junk, .junk, .junk, .junk, .junk, .junk, .junk, .junk, .junk, .junk])
    (fun i => pix2L p q ++ [optC 1 dx dy ty kd, bmC w v 0 p.length, bmC w' v' 1 q.length] ++ [.own (offF (freshP 0)) 162, .own (offF (freshP 1)) 162]) 0 (by omega) ?_ ?_
  · (refine ⟨by simp [leF, leV] <;> rfl, ⟨_, by first | rfl | exact (List.append_nil _).symm⟩, by simp, by simp [okIns, okIn, okIns_ints, offF_okIns], by simp [AObj.born, okIns, okIn, AObj.cells, okIns_ints, offF_okIns]⟩)
  intro i hi
  simp (maxSteps := 2000000) only [↓vP0, vQ0, vT0, simprocAttr]
  (with_reducible first | refine condK_dec (fun h => ?_) (fun h => ?_) | refine condK_beq (fun h => ?_) (fun h => ?_) | refine condK_bne (fun h => ?_) (fun h => ?_) | refine condK_intro (fun h => ?_) (fun h => ?_))
  · have hi4 : i < 2 := by omega
    have hil : i < (freshP 1).length := hi4
    have g1 := offF_get (freshP 1) i hil
    have hlen := offF_len (freshP 1)
    have hl4 : (freshP 1).length = 2 := rfl
    have hd := off_bd (l := freshP 1) rfl i
    have ha := accP_le (w := w) (v := v) hp (x := x) (y := y) (l := (freshP 1).take i) (n := 0) (by omega) (by omega) (by rw [List.length_take]; omega)
    have hpx := pix01 hp w v (x + ((freshP 1).getD i (0, 0)).1) (y + ((freshP 1).getD i (0, 0)).2)
    simp (maxSteps := 2000000) only [↓vP0, vQ0, vT0, simprocAttr]
    refine chk_intro (by omega) ?_
    simp (maxSteps := 2000000) only [↓vP0, vQ0, vT0, simprocAttr, g1]
    refine chk_intro (by omega) ?_
    simp (maxSteps := 2000000) only [↓vP0, vQ0, vT0, simprocAttr, g1]
    simp (disch := omega) only [wr64, wru64, wru8, tdv, tmd, fdv]
    refine callK_read (c_rPix w v p hb (x + ((freshP 1).getD i (0, 0)).1) (y + ((freshP 1).getD i (0, 0)).2)) [0] ?_ ?_ ?_ rfl ?_
    · simp [ren, rens, sg, sig, okIn, okIns, exK, leK, leF, leV, matK, objM, renO, roSame, lh, born, AObj.born, AObj.live, injOk, kindOf, rens_ints, okIns_ints, List.range, List.range.loop, mrg, mset]
    · simp [ren, rens, sg, sig, okIn, okIns, exK, leK, leF, leV, matK, objM, renO, roSame, lh, born, AObj.born, AObj.live, injOk, kindOf, rens_ints, okIns_ints, List.range, List.range.loop, mrg, mset]
    · simp [ren, rens, sg, sig, okIn, okIns, exK, leK, leF, leV, matK, objM, renO, roSame, lh, born, AObj.born, AObj.live, injOk, kindOf, rens_ints, okIns_ints, List.range, List.range.loop, mrg, mset]
    simp (maxSteps := 2000000) only [↓vP0, vQ0, vT0, simprocAttr]
    simp (disch := omega) only [wr64, wru64, wru8, tdv, tmd, fdv]
    refine ⟨i + 1, by omega, by omega, ?_⟩
    rw [accP_snoc _ _ _ _ _ _ _ _ hil]
    simp only [Int.natCast_add, Int.cast_ofNat_Int]
    (refine ⟨by simp [leF, leV] <;> rfl, ⟨_, by first | rfl | exact (List.append_nil _).symm⟩, by simp, by simp [okIns, okIn, okIns_ints, offF_okIns], by simp [AObj.born, okIns, okIn, AObj.cells, okIns_ints, offF_okIns]⟩)
  · have hi4 : i = 2 := by omega
    subst hi4
    have e4 : (freshP 1).take 2 = freshP 1 := rfl
    simp (maxSteps := 2000000) only [↓vP0, vQ0, vT0, simprocAttr, e4]
    refine loopK_of tyok hD (α := Nat) (fun i => i ≤ 5) (fun i => 5 - i) (fun i => [.junk, .junk, .junk, .int .i64 x, .int .i64 y, .ptr 2 0, .junk, .ptr 4 0, .junk, .junk, .junk, .junk, .int .i64 (accP w' v' q (x - dx) (y - dy) (besideP.take i) (accP w v p x y (freshP 1) 0)), .junk, .junk, .junk, .junk, .junk, .junk, .junk, .junk, .junk, .junk, .junk, .junk, .junk, .junk, .junk, .junk, .junk, .junk, .junk, .junk, .junk, .junk, .junk, .junk, .junk, .junk, .junk, .junk, .junk, .junk, .junk, .junk, .junk, .junk, .junk, .junk, .junk, .junk, .junk, .junk, .junk, .slice 7 0 5, .int .i64 5, .int .i64 i, .junk, .junk, .junk, .junk, .junk, .junk, .junk, .junk, .junk, .junk, .junk, .junk, .junk, .junk, .junk, .junk, .junk, .junk, .junk, .junk, .junk, .junk, .junk, .junk, .junk])
      (fun i => pix2L p q ++ [optC 1 dx dy ty kd, bmC w v 0 p.length, bmC w' v' 1 q.length] ++ [.own (offF (freshP 0)) 162, .own (offF (freshP 1)) 162] ++ [.own (offF besideP) 162]) 0 (by omega) ?_ ?_
    · (refine ⟨by simp [leF, leV] <;> rfl, ⟨_, by first | rfl | exact (List.append_nil _).symm⟩, by simp, by simp [okIns, okIn, okIns_ints, offF_okIns], by simp [AObj.born, okIns, okIn, AObj.cells, okIns_ints, offF_okIns]⟩)
    intro i hi
    simp (maxSteps := 2000000) only [↓vP0, vQ0, vT0, simprocAttr]
    (with_reducible first | refine condK_dec (fun h => ?_) (fun h => ?_) | refine condK_beq (fun h => ?_) (fun h => ?_) | refine condK_bne (fun h => ?_) (fun h => ?_) | refine condK_intro (fun h => ?_) (fun h => ?_))
    · have hi4 : i < 5 := by omega
      have hil : i < besideP.length := hi4
      have g1 := offF_get besideP i hil
      have hlen := offF_len besideP
      have hl4 : besideP.length = 5 := rfl
      have hd := off_bd (l := besideP) rfl i
      have ha := accP_le (w := w') (v := v') hq (x := x - dx) (y := y - dy) (l := besideP.take i) (n := accP w v p x y (freshP 1) 0) hfl.1 hfl.2.1 (by rw [List.length_take]; omega)
      have hpx := pix01 hq w' v' (x - dx + (besideP.getD i (0, 0)).1) (y - dy + (besideP.getD i (0, 0)).2)
      simp (maxSteps := 2000000) only [↓vP0, vQ0, vT0, simprocAttr]
      refine chk_intro (by omega) ?_
      simp (maxSteps := 2000000) only [↓vP0, vQ0, vT0, simprocAttr, g1]
      refine chk_intro (by omega) ?_
      simp (maxSteps := 2000000) only [↓vP0, vQ0, vT0, simprocAttr, g1]
      simp (disch := omega) only [wr64, wru64, wru8, tdv, tmd, fdv]
      refine callK_read (c_rPix w' v' q hr (x - dx + (besideP.getD i (0, 0)).1) (y - dy + (besideP.getD i (0, 0)).2)) [1] ?_ ?_ ?_ rfl ?_
      · simp [ren, rens, sg, sig, okIn, okIns, exK, leK, leF, leV, matK, objM, renO, roSame, lh, born, AObj.born, AObj.live, injOk, kindOf, rens_ints, okIns_ints, List.range, List.range.loop, mrg, mset]
      · simp [ren, rens, sg, sig, okIn, okIns, exK, leK, leF, leV, matK, objM, renO, roSame, lh, born, AObj.born, AObj.live, injOk, kindOf, rens_ints, okIns_ints, List.range, List.range.loop, mrg, mset]
      · simp [ren, rens, sg, sig, okIn, okIns, exK, leK, leF, leV, matK, objM, renO, roSame, lh, born, AObj.born, AObj.live, injOk, kindOf, rens_ints, okIns_ints, List.range, List.range.loop, mrg, mset]
      simp (maxSteps := 2000000) only [↓vP0, vQ0, vT0, simprocAttr]
      simp (disch := omega) only [wr64, wru64, wru8, tdv, tmd, fdv]
      refine ⟨i + 1, by omega, by omega, ?_⟩
      rw [accP_snoc _ _ _ _ _ _ _ _ hil]
      simp only [Int.natCast_add, Int.cast_ofNat_Int]
      (refine ⟨by simp [leF, leV] <;> rfl, ⟨_, by first | rfl | exact (List.append_nil _).symm⟩, by simp, by simp [okIns, okIn, okIns_ints, offF_okIns], by simp [AObj.born, okIns, okIn, AObj.cells, okIns_ints, offF_okIns]⟩)
    · have hi4 : i = 5 := by omega
      subst hi4
      have e5 : besideP.take 5 = besideP := rfl
      simp (maxSteps := 2000000) only [↓vP0, vQ0, vT0, simprocAttr, e5]
      exact exit_keep (L1 := pix2L p q) ⟨rfl, rfl⟩ trivial (pix2_keep p q)
end Go.Proofs.Ytbfefpkhalegmaa

set_option linter.unusedVariables false
set_option linter.unusedSimpArgs false
namespace Go.Proofs.Ytbfefpkhalegmaa
open Go
set_option maxHeartbeats 4000000
set_option maxRecDepth 20000

theorem c_fresh0 : LCall Try.prog 120 [.int .i64 0] [] fun r L => r = .slice 0 0 4 ∧ L = [.own (offF (freshP 0)) 162] := c_fresh 0
theorem c_fresh1 : LCall Try.prog 120 [.int .i64 1] [] fun r L => r = .slice 0 0 2 ∧ L = [.own (offF (freshP 1)) 162] := c_fresh 1
theorem c_besideP : LCall Try.prog 123 [] [] fun r L => r = .slice 0 0 5 ∧ L = [.own (offF besideP) 162] := c_beside
theorem c_context0 (dx dy : Int) (ty : Bool) (kd : Int) (ho : OffOk dx dy) (w v w' v' : Int) (p q : List Int) (hb : BmOk w v p) (hr : BmOk w' v' q) (hp : PixOk p) (hq : PixOk q) (x y : Int) (hx : Small x) (hy : Small y) :
    LCall Try.prog 91 [.ptr 0 0, .int .i64 x, .int .i64 y] (regL 0 dx dy ty kd w v w' v' p q) fun r L =>
      r = .int .i64 (ctxOf 0 dx dy w v p w' v' q x y) ∧ L = regL 0 dx dy ty kd w v w' v' p q := by
  obtain ⟨o0, o1, o2, o3⟩ := ho
  obtain ⟨x0, x1⟩ := hx
  obtain ⟨y0, y1⟩ := hy
  have hfl := fresh_le (w := w) (v := v) hp 0 x y
  refine lcall_of_vc tyok Try.func91 rfl (by rfl) Try.results91 Try.ntmps91 ?_; intro C hD
  simp (maxSteps := 2000000) only [↓vP0, vQ0, vT0, simprocAttr]
  refine callK_det c_fresh0 [] ?_ ?_ ?_ rfl (by simp) ?_
  · simp [ren, rens, sg, sig, okIn, okIns, exK, leK, leF, leV, matK, objM, renO, roSame, lh, born, AObj.born, AObj.live, injOk, kindOf, rens_ints, okIns_ints, List.range, List.range.loop, mrg, mset]
  · simp [ren, rens, sg, sig, okIn, okIns, exK, leK, leF, leV, matK, objM, renO, roSame, lh, born, AObj.born, AObj.live, injOk, kindOf, rens_ints, okIns_ints, List.range, List.range.loop, mrg, mset]
  · simp [ren, rens, sg, sig, okIn, okIns, exK, leK, leF, leV, matK, objM, renO, roSame, lh, born, AObj.born, AObj.live, injOk, kindOf, rens_ints, okIns_ints, List.range, List.range.loop, mrg, mset]
  simp (maxSteps := 2000000) only [↓vP0, vQ0, vT0, simprocAttr, offF_rens]
  refine loopK_of tyok hD (α := Nat) (fun i => i ≤ 4) (fun i => 4 - i) (fun i => [.ptr 0 0, .int .i64 x, .int .i64 y, .junk, .junk, .junk, .junk, .int .i64 (accP w v p x y ((freshP 0).take i) 0), .junk, .junk, .junk, .junk, .junk, .junk, .junk, .junk, .junk, .slice 3 0 4, .int .i64 4, .int .i64 i, .junk, .junk, .junk, .junk, .junk, .junk, .junk, .junk, .junk, .junk, .junk, .junk, .junk, .junk, .junk, .junk, .junk, .junk, .junk, .junk, .junk, .junk, .junk, .junk, .junk, .junk, .junk, .junk, .junk, .junk, .junk, .junk, .junk, .junk, .junk, .junk, .junk, .junk, .junk, .junk, .junk, .junk, .junk, .junk, .junk, .junk, .junk, .junk, .junk, .junk, .junk, .junk, .junk, .junk, .junk, .junk, .junk, .junk])
    (fun i => regL 0 dx dy ty kd w v w' v' p q ++ [.own (offF (freshP 0)) 162]) 0 (by omega) ?_ ?_
  · (refine ⟨by simp [leF, leV] <;> rfl, ⟨_, by first | rfl | exact (List.append_nil _).symm⟩, by simp, by simp [okIns, okIn, okIns_ints, offF_okIns], by simp [AObj.born, okIns, okIn, AObj.cells, okIns_ints, offF_okIns]⟩)
  intro i hi
  simp (maxSteps := 2000000) only [↓vP0, vQ0, vT0, simprocAttr]
  (with_reducible first | refine condK_dec (fun h => ?_) (fun h => ?_) | refine condK_beq (fun h => ?_) (fun h => ?_) | refine condK_bne (fun h => ?_) (fun h => ?_) | refine condK_intro (fun h => ?_) (fun h => ?_))
  · have hi4 : i < 4 := by omega
    have hil : i < (freshP 0).length := hi4
    have g1 := offF_get (freshP 0) i hil
    have hlen := offF_len (freshP 0)
    have hl4 : (freshP 0).length = 4 := rfl
    have hd := off_bd (l := freshP 0) rfl i
    have ha := accP_le (w := w) (v := v) hp (x := x) (y := y) (l := (freshP 0).take i) (n := 0) (by omega) (by omega) (by rw [List.length_take]; omega)
    have hpx := pix01 hp w v (x + ((freshP 0).getD i (0, 0)).1) (y + ((freshP 0).getD i (0, 0)).2)
    simp (maxSteps := 2000000) only [↓vP0, vQ0, vT0, simprocAttr]
    refine chk_intro (by omega) ?_
    simp (maxSteps := 2000000) only [↓vP0, vQ0, vT0, simprocAttr, g1]
    refine chk_intro (by omega) ?_
    simp (maxSteps := 2000000) only [↓vP0, vQ0, vT0, simprocAttr, g1]
    refine drawK_of tyok rfl (usL []) (fun i => .below 0) (by kernel_rfl) ?_
    simp (maxSteps := 2000000) only [↓vP0, vQ0, vT0, simprocAttr]
    simp (disch := omega) only [wr64, wru64, wru8, tdv, tmd, fdv]
    refine callK_read (c_at w v p hb (x + ((freshP 0).getD i (0, 0)).1) (y + ((freshP 0).getD i (0, 0)).2)) [1] ?_ ?_ ?_ rfl ?_
    · simp [ren, rens, sg, sig, okIn, okIns, exK, leK, leF, leV, matK, objM, renO, roSame, lh, born, AObj.born, AObj.live, injOk, kindOf, rens_ints, okIns_ints, List.range, List.range.loop, mrg, mset]
    · simp [ren, rens, sg, sig, okIn, okIns, exK, leK, leF, leV, matK, objM, renO, roSame, lh, born, AObj.born, AObj.live, injOk, kindOf, rens_ints, okIns_ints, List.range, List.range.loop, mrg, mset]
    · simp [ren, rens, sg, sig, okIn, okIns, exK, leK, leF, leV, matK, objM, renO, roSame, lh, born, AObj.born, AObj.live, injOk, kindOf, rens_ints, okIns_ints, List.range, List.range.loop, mrg, mset]
    simp (maxSteps := 2000000) only [↓vP0, vQ0, vT0, simprocAttr]
    simp (disch := omega) only [wr64, wru64, wru8, tdv, tmd, fdv]
    refine ⟨i + 1, by omega, by omega, ?_⟩
    rw [accP_snoc _ _ _ _ _ _ _ _ hil]
    simp only [Int.natCast_add, Int.cast_ofNat_Int]
    (refine ⟨by simp [leF, leV] <;> rfl, ⟨_, by first | rfl | exact (List.append_nil _).symm⟩, by simp, by simp [okIns, okIn, okIns_ints, offF_okIns], by simp [AObj.born, okIns, okIn, AObj.cells, okIns_ints, offF_okIns]⟩)
  · have hi4 : i = 4 := by omega
    subst hi4
    have e4 : (freshP 0).take 4 = freshP 0 := rfl
    simp (maxSteps := 2000000) only [↓vP0, vQ0, vT0, simprocAttr, e4]
    refine callK_det c_besideP [] ?_ ?_ ?_ rfl (by simp) ?_
    · simp [ren, rens, sg, sig, okIn, okIns, exK, leK, leF, leV, matK, objM, renO, roSame, lh, born, AObj.born, AObj.live, injOk, kindOf, rens_ints, okIns_ints, List.range, List.range.loop, mrg, mset]
    · simp [ren, rens, sg, sig, okIn, okIns, exK, leK, leF, leV, matK, objM, renO, roSame, lh, born, AObj.born, AObj.live, injOk, kindOf, rens_ints, okIns_ints, List.range, List.range.loop, mrg, mset]
    · simp [ren, rens, sg, sig, okIn, okIns, exK, leK, leF, leV, matK, objM, renO, roSame, lh, born, AObj.born, AObj.live, injOk, kindOf, rens_ints, okIns_ints, List.range, List.range.loop, mrg, mset]
    simp (maxSteps := 2000000) only [↓vP0, vQ0, vT0, simprocAttr, offF_rens]
    refine loopK_of tyok hD (α := Nat) (fun i => i ≤ 5) (fun i => 5 - i) (fun i => [.ptr 0 0, .int .i64 x, .int .i64 y, .junk, .junk, .junk, .junk, .int .i64 (accP w' v' q (x - dx) (y - dy) (besideP.take i) (accP w v p x y (freshP 0) 0)), .junk, .junk, .junk, .junk, .junk, .junk, .junk, .junk, .junk, .junk, .junk, .junk, .junk, .junk, .junk, .junk, .junk, .junk, .junk, .junk, .junk, .junk, .junk, .junk, .junk, .junk, .junk, .junk, .junk, .junk, .junk, .junk, .junk, .slice 4 0 5, .int .i64 5, .int .i64 i, .junk, .junk, .junk, .junk, .junk, .junk, .junk, .junk, .junk, .junk, .junk, .junk, .junk, .junk, .junk, .junk, .junk, .junk, .junk, .junk, .junk, .junk, .junk, .junk, .junk, .junk, .junk, .junk, .junk, .junk, .junk, .junk, .junk, .junk])
      (fun i => regL 0 dx dy ty kd w v w' v' p q ++ [.own (offF (freshP 0)) 162, .own (offF besideP) 162]) 0 (by omega) ?_ ?_
    · (refine ⟨by simp [leF, leV] <;> rfl, ⟨_, by first | rfl | exact (List.append_nil _).symm⟩, by simp, by simp [okIns, okIn, okIns_ints, offF_okIns], by simp [AObj.born, okIns, okIn, AObj.cells, okIns_ints, offF_okIns]⟩)
    intro i hi
    simp (maxSteps := 2000000) only [↓vP0, vQ0, vT0, simprocAttr]
    (with_reducible first | refine condK_dec (fun h => ?_) (fun h => ?_) | refine condK_beq (fun h => ?_) (fun h => ?_) | refine condK_bne (fun h => ?_) (fun h => ?_) | refine condK_intro (fun h => ?_) (fun h => ?_))
    · have hi4 : i < 5 := by omega
      have hil : i < besideP.length := hi4
      have g1 := offF_get besideP i hil
      have hlen := offF_len besideP
      have hl4 : besideP.length = 5 := rfl
      have hd := off_bd (l := besideP) rfl i
      have ha := accP_le (w := w') (v := v') hq (x := x - dx) (y := y - dy) (l := besideP.take i) (n := accP w v p x y (freshP 0) 0) hfl.1 hfl.2.1 (by rw [List.length_take]; omega)
      have hpx := pix01 hq w' v' (x - dx + (besideP.getD i (0, 0)).1) (y - dy + (besideP.getD i (0, 0)).2)
      simp (maxSteps := 2000000) only [↓vP0, vQ0, vT0, simprocAttr]
      refine chk_intro (by omega) ?_
      simp (maxSteps := 2000000) only [↓vP0, vQ0, vT0, simprocAttr, g1]
      refine chk_intro (by omega) ?_
      simp (maxSteps := 2000000) only [↓vP0, vQ0, vT0, simprocAttr, g1]
      refine drawK_of tyok rfl (usL []) (fun i => .below 0) (by kernel_rfl) ?_
      simp (maxSteps := 2000000) only [↓vP0, vQ0, vT0, simprocAttr]
      simp (disch := omega) only [wr64, wru64, wru8, tdv, tmd, fdv]
      refine callK_read (c_at w' v' q hr (x - dx + (besideP.getD i (0, 0)).1) (y - dy + (besideP.getD i (0, 0)).2)) [2] ?_ ?_ ?_ rfl ?_
      · simp [ren, rens, sg, sig, okIn, okIns, exK, leK, leF, leV, matK, objM, renO, roSame, lh, born, AObj.born, AObj.live, injOk, kindOf, rens_ints, okIns_ints, List.range, List.range.loop, mrg, mset]
      · simp [ren, rens, sg, sig, okIn, okIns, exK, leK, leF, leV, matK, objM, renO, roSame, lh, born, AObj.born, AObj.live, injOk, kindOf, rens_ints, okIns_ints, List.range, List.range.loop, mrg, mset]
      · simp [ren, rens, sg, sig, okIn, okIns, exK, leK, leF, leV, matK, objM, renO, roSame, lh, born, AObj.born, AObj.live, injOk, kindOf, rens_ints, okIns_ints, List.range, List.range.loop, mrg, mset]
      simp (maxSteps := 2000000) only [↓vP0, vQ0, vT0, simprocAttr]
      simp (disch := omega) only [wr64, wru64, wru8, tdv, tmd, fdv]
      refine ⟨i + 1, by omega, by omega, ?_⟩
      rw [accP_snoc _ _ _ _ _ _ _ _ hil]
      simp only [Int.natCast_add, Int.cast_ofNat_Int]
      (refine ⟨by simp [leF, leV] <;> rfl, ⟨_, by first | rfl | exact (List.append_nil _).symm⟩, by simp, by simp [okIns, okIn, okIns_ints, offF_okIns], by simp [AObj.born, okIns, okIn, AObj.cells, okIns_ints, offF_okIns]⟩)
    · have hi4 : i = 5 := by omega
      subst hi4
      have e5 : besideP.take 5 = besideP := rfl
      simp (maxSteps := 2000000) only [↓vP0, vQ0, vT0, simprocAttr, e5]
      exact exit_keep (L1 := regL 0 dx dy ty kd w v w' v' p q) ⟨rfl, rfl⟩ trivial (reg_keep ..)
theorem c_context1 (dx dy : Int) (ty : Bool) (kd : Int) (ho : OffOk dx dy) (w v w' v' : Int) (p q : List Int) (hb : BmOk w v p) (hr : BmOk w' v' q) (hp : PixOk p) (hq : PixOk q) (x y : Int) (hx : Small x) (hy : Small y) :
    LCall Try.prog 91 [.ptr 0 0, .int .i64 x, .int .i64 y] (regL 1 dx dy ty kd w v w' v' p q) fun r L =>
      r = .int .i64 (ctxOf 1 dx dy w v p w' v' q x y) ∧ L = regL 1 dx dy ty kd w v w' v' p q := by
  obtain ⟨o0, o1, o2, o3⟩ := ho
  obtain ⟨x0, x1⟩ := hx
  obtain ⟨y0, y1⟩ := hy
  have hfl := fresh_le (w := w) (v := v) hp 1 x y
  refine lcall_of_vc tyok Try.func91 rfl (by rfl) Try.results91 Try.ntmps91 ?_; intro C hD
  simp (maxSteps := 2000000) only [↓vP0, vQ0, vT0, simprocAttr]
  refine callK_det c_fresh1 [] ?_ ?_ ?_ rfl (by simp) ?_
  · simp [ren, rens, sg, sig, okIn, okIns, exK, leK, leF, leV, matK, objM, renO, roSame, lh, born, AObj.born, AObj.live, injOk, kindOf, rens_ints, okIns_ints, List.range, List.range.loop, mrg, mset]
  · simp [ren, rens, sg, sig, okIn, okIns, exK, leK, leF, leV, matK, objM, renO, roSame, lh, born, AObj.born, AObj.live, injOk, kindOf, rens_ints, okIns_ints, List.range, List.range.loop, mrg, mset]
  · simp [ren, rens, sg, sig, okIn, okIns, exK, leK, leF, leV, matK, objM, renO, roSame, lh, born, AObj.born, AObj.live, injOk, kindOf, rens_ints, okIns_ints, List.range, List.range.loop, mrg, mset]
  simp (maxSteps := 2000000) only [↓vP0, vQ0, vT0, simprocAttr, offF_rens]
  refine loopK_of tyok hD (α := Nat) (fun i => i ≤ 2) (fun i => 2 - i) (fun i => [.ptr 0 0, .int .i64 x, .int .i64 y, .junk, .junk, .junk, .junk, .int .i64 (accP w v p x y ((freshP 1).take i) 0), .junk, .junk, .junk, .junk, .junk, .junk, .junk, .junk, .junk, .slice 3 0 2, .int .i64 2, .int .i64 i, .junk, .junk, .junk, .junk, .junk, .junk, .junk, .junk, .junk, .junk, .junk, .junk, .junk, .junk, .junk, .junk, .junk, .junk, .junk, .junk, .junk, .junk, .junk, .junk, .junk, .junk, .junk, .junk, .junk, .junk, .junk, .junk, .junk, .junk, .junk, .junk, .junk, .junk, .junk, .junk, .junk, .junk, .junk, .junk, .junk, .junk, .junk, .junk, .junk, .junk, .junk, .junk, .junk, .junk, .junk, .junk, .junk, .junk])
    (fun i => regL 1 dx dy ty kd w v w' v' p q ++ [.own (offF (freshP 1)) 162]) 0 (by omega) ?_ ?_
  · (refine ⟨by simp [leF, leV] <;> rfl, ⟨_, by first | rfl | exact (List.append_nil _).symm⟩, by simp, by simp [okIns, okIn, okIns_ints, offF_okIns], by simp [AObj.born, okIns, okIn, AObj.cells, okIns_ints, offF_okIns]⟩)
  intro i hi
  simp (maxSteps := 2000000) only [↓vP0, vQ0, vT0, simprocAttr]
  (with_reducible first | refine condK_dec (fun h => ?_) (fun h => ?_) | refine condK_beq (fun h => ?_) (fun h => ?_) | refine condK_bne (fun h => ?_) (fun h => ?_) | refine condK_intro (fun h => ?_) (fun h => ?_))
  · have hi4 : i < 2 := by omega
    have hil : i < (freshP 1).length := hi4
    have g1 := offF_get (freshP 1) i hil
    have hlen := offF_len (freshP 1)
    have hl4 : (freshP 1).length = 2 := rfl
    have hd := off_bd (l := freshP 1) rfl i
    have ha := accP_le (w := w) (v := v) hp (x := x) (y := y) (l := (freshP 1).take i) (n := 0) (by omega) (by omega) (by rw [List.length_take]; omega)
    have hpx := pix01 hp w v (x + ((freshP 1).getD i (0, 0)).1) (y + ((freshP 1).getD i (0, 0)).2)
    simp (maxSteps := 2000000) only [↓vP0, vQ0, vT0, simprocAttr]
    refine chk_intro (by omega) ?_
    simp (maxSteps := 2000000) only [↓vP0, vQ0, vT0, simprocAttr, g1]
    refine chk_intro (by omega) ?_
    simp (maxSteps := 2000000) only [↓vP0, vQ0, vT0, simprocAttr, g1]
    refine drawK_of tyok rfl (usL []) (fun i => .below 0) (by kernel_rfl) ?_
    simp (maxSteps := 2000000) only [↓vP0, vQ0, vT0, simprocAttr]
    simp (disch := omega) only [wr64, wru64, wru8, tdv, tmd, fdv]
    refine callK_read (c_at w v p hb (x + ((freshP 1).getD i (0, 0)).1) (y + ((freshP 1).getD i (0, 0)).2)) [1] ?_ ?_ ?_ rfl ?_
    · simp [ren, rens, sg, sig, okIn, okIns, exK, leK, leF, leV, matK, objM, renO, roSame, lh, born, AObj.born, AObj.live, injOk, kindOf, rens_ints, okIns_ints, List.range, List.range.loop, mrg, mset]
    · simp [ren, rens, sg, sig, okIn, okIns, exK, leK, leF, leV, matK, objM, renO, roSame, lh, born, AObj.born, AObj.live, injOk, kindOf, rens_ints, okIns_ints, List.range, List.range.loop, mrg, mset]
    · simp [ren, rens, sg, sig, okIn, okIns, exK, leK, leF, leV, matK, objM, renO, roSame, lh, born, AObj.born, AObj.live, injOk, kindOf, rens_ints, okIns_ints, List.range, List.range.loop, mrg, mset]
    simp (maxSteps := 2000000) only [↓vP0, vQ0, vT0, simprocAttr]
    simp (disch := omega) only [wr64, wru64, wru8, tdv, tmd, fdv]
    refine ⟨i + 1, by omega, by omega, ?_⟩
    rw [accP_snoc _ _ _ _ _ _ _ _ hil]
    simp only [Int.natCast_add, Int.cast_ofNat_Int]
    (refine ⟨by simp [leF, leV] <;> rfl, ⟨_, by first | rfl | exact (List.append_nil _).symm⟩, by simp, by simp [okIns, okIn, okIns_ints, offF_okIns], by simp [AObj.born, okIns, okIn, AObj.cells, okIns_ints, offF_okIns]⟩)
  · have hi4 : i = 2 := by omega
    subst hi4
    have e4 : (freshP 1).take 2 = freshP 1 := rfl
    simp (maxSteps := 2000000) only [↓vP0, vQ0, vT0, simprocAttr, e4]
    refine callK_det c_besideP [] ?_ ?_ ?_ rfl (by simp) ?_
    · simp [ren, rens, sg, sig, okIn, okIns, exK, leK, leF, leV, matK, objM, renO, roSame, lh, born, AObj.born, AObj.live, injOk, kindOf, rens_ints, okIns_ints, List.range, List.range.loop, mrg, mset]
    · simp [ren, rens, sg, sig, okIn, okIns, exK, leK, leF, leV, matK, objM, renO, roSame, lh, born, AObj.born, AObj.live, injOk, kindOf, rens_ints, okIns_ints, List.range, List.range.loop, mrg, mset]
    · simp [ren, rens, sg, sig, okIn, okIns, exK, leK, leF, leV, matK, objM, renO, roSame, lh, born, AObj.born, AObj.live, injOk, kindOf, rens_ints, okIns_ints, List.range, List.range.loop, mrg, mset]
    simp (maxSteps := 2000000) only [↓vP0, vQ0, vT0, simprocAttr, offF_rens]
    refine loopK_of tyok hD (α := Nat) (fun i => i ≤ 5) (fun i => 5 - i) (fun i => [.ptr 0 0, .int .i64 x, .int .i64 y, .junk, .junk, .junk, .junk, .int .i64 (accP w' v' q (x - dx) (y - dy) (besideP.take i) (accP w v p x y (freshP 1) 0)), .junk, .junk, .junk, .junk, .junk, .junk, .junk, .junk, .junk, .junk, .junk, .junk, .junk, .junk, .junk, .junk, .junk, .junk, .junk, .junk, .junk, .junk, .junk, .junk, .junk, .junk, .junk, .junk, .junk, .junk, .junk, .junk, .junk, .slice 4 0 5, .int .i64 5, .int .i64 i, .junk, .junk, .junk, .junk, .junk, .junk, .junk, .junk, .junk, .junk, .junk, .junk, .junk, .junk, .junk, .junk, .junk, .junk, .junk, .junk, .junk, .junk, .junk, .junk, .junk, .junk, .junk, .junk, .junk, .junk, .junk, .junk, .junk, .junk])
      (fun i => regL 1 dx dy ty kd w v w' v' p q ++ [.own (offF (freshP 1)) 162, .own (offF besideP) 162]) 0 (by omega) ?_ ?_
    · (refine ⟨by simp [leF, leV] <;> rfl, ⟨_, by first | rfl | exact (List.append_nil _).symm⟩, by simp, by simp [okIns, okIn, okIns_ints, offF_okIns], by simp [AObj.born, okIns, okIn, AObj.cells, okIns_ints, offF_okIns]⟩)
    intro i hi
    simp (maxSteps := 2000000) only [↓vP0, vQ0, vT0, simprocAttr]
    (with_reducible first | refine condK_dec (fun h => ?_) (fun h => ?_) | refine condK_beq (fun h => ?_) (fun h => ?_) | refine condK_bne (fun h => ?_) (fun h => ?_) | refine condK_intro (fun h => ?_) (fun h => ?_))
    · have hi4 : i < 5 := by omega
      have hil : i < besideP.length := hi4
      have g1 := offF_get besideP i hil
      have hlen := offF_len besideP
      have hl4 : besideP.length = 5 := rfl
      have hd := off_bd (l := besideP) rfl i
      have ha := accP_le (w := w') (v := v') hq (x := x - dx) (y := y - dy) (l := besideP.take i) (n := accP w v p x y (freshP 1) 0) hfl.1 hfl.2.1 (by rw [List.length_take]; omega)
      have hpx := pix01 hq w' v' (x - dx + (besideP.getD i (0, 0)).1) (y - dy + (besideP.getD i (0, 0)).2)
      simp (maxSteps := 2000000) only [↓vP0, vQ0, vT0, simprocAttr]
      refine chk_intro (by omega) ?_
      simp (maxSteps := 2000000) only [↓vP0, vQ0, vT0, simprocAttr, g1]
      refine chk_intro (by omega) ?_
      simp (maxSteps := 2000000) only [↓vP0, vQ0, vT0, simprocAttr, g1]
      refine drawK_of tyok rfl (usL []) (fun i => .below 0) (by kernel_rfl) ?_
      simp (maxSteps := 2000000) only [↓vP0, vQ0, vT0, simprocAttr]
      simp (disch := omega) only [wr64, wru64, wru8, tdv, tmd, fdv]
      refine callK_read (c_at w' v' q hr (x - dx + (besideP.getD i (0, 0)).1) (y - dy + (besideP.getD i (0, 0)).2)) [2] ?_ ?_ ?_ rfl ?_
      · simp [ren, rens, sg, sig, okIn, okIns, exK, leK, leF, leV, matK, objM, renO, roSame, lh, born, AObj.born, AObj.live, injOk, kindOf, rens_ints, okIns_ints, List.range, List.range.loop, mrg, mset]
      · simp [ren, rens, sg, sig, okIn, okIns, exK, leK, leF, leV, matK, objM, renO, roSame, lh, born, AObj.born, AObj.live, injOk, kindOf, rens_ints, okIns_ints, List.range, List.range.loop, mrg, mset]
      · simp [ren, rens, sg, sig, okIn, okIns, exK, leK, leF, leV, matK, objM, renO, roSame, lh, born, AObj.born, AObj.live, injOk, kindOf, rens_ints, okIns_ints, List.range, List.range.loop, mrg, mset]
      simp (maxSteps := 2000000) only [↓vP0, vQ0, vT0, simprocAttr]
      simp (disch := omega) only [wr64, wru64, wru8, tdv, tmd, fdv]
      refine ⟨i + 1, by omega, by omega, ?_⟩
      rw [accP_snoc _ _ _ _ _ _ _ _ hil]
      simp only [Int.natCast_add, Int.cast_ofNat_Int]
      (refine ⟨by simp [leF, leV] <;> rfl, ⟨_, by first | rfl | exact (List.append_nil _).symm⟩, by simp, by simp [okIns, okIn, okIns_ints, offF_okIns], by simp [AObj.born, okIns, okIn, AObj.cells, okIns_ints, offF_okIns]⟩)
    · have hi4 : i = 5 := by omega
      subst hi4
      have e5 : besideP.take 5 = besideP := rfl
      simp (maxSteps := 2000000) only [↓vP0, vQ0, vT0, simprocAttr, e5]
      exact exit_keep (L1 := regL 1 dx dy ty kd w v w' v' p q) ⟨rfl, rfl⟩ trivial (reg_keep ..)
end Go.Proofs.Ytbfefpkhalegmaa
