/- Contracts: what is asked ahead of Put and Get; new models. -/
import Derived.Test.YtbfefpkhalegmaaF1
import Derived.KernelRfl

set_option linter.unusedVariables false
set_option linter.unusedSimpArgs false
namespace Go.Proofs.Ytbfefpkhalegmaa
open Go
set_option maxHeartbeats 4000000
set_option maxRecDepth 20000

def sizeN (t : Int) : Int := if t = 0 then 513 else 129
def askErr (t dx dy kd : Int) (right : Bool) (base : Int) (n : Nat) : Int :=
  if ¬ OptOk t dx dy kd then 2 else if right = false then 30 else if base < 0 ∨ (n : Int) - sizeN t < base then 2 else 0
theorem c_asked (t dx dy : Int) (ty : Bool) (kd : Int) (right : Bool) (base : Int) (k : Int) (st : List Int) (hl : st.length ≤ 8192) :
    LCall Try.prog 98 [optV t dx dy ty kd, .bool right, .int .i64 base, .agg [.int .i64 k, .slice 0 0 st.length]] [.ro (ints .i64 st) 3] fun r L =>
      r = .int .i64 (askErr t dx dy kd right base st.length) ∧ L = [.ro (ints .i64 st) 3] := by
  have hkeep : keepL 1 [AObj.ro (ints .i64 st) 3] [AObj.ro (ints .i64 st) 3] := ⟨⟨rfl, by rw [okIns_ints]; trivial⟩, trivial⟩
  refine lcall_of_vc tyok Try.func98 rfl (by rfl) Try.results98 Try.ntmps98 ?_; intro C hD
  simp (maxSteps := 2000000) only [↓vP0, vQ0, vT0, simprocAttr]
  refine callK_pure (c_rRefValid t dx dy ty kd) rfl rfl ?_
  by_cases ho : OptOk t dx dy kd
  · cases right with
    | false =>
      simp (maxSteps := 2000000) only [↓vP0, vQ0, vT0, simprocAttr, dT ho]
      exact exit_keep (L1 := [AObj.ro (ints .i64 st) 3]) ⟨by rw [askErr, if_neg (not_not_intro ho), if_pos rfl], rfl⟩ trivial hkeep
    | true =>
      simp (maxSteps := 2000000) only [↓vP0, vQ0, vT0, simprocAttr, dT ho]
      refine drawK_of tyok rfl (usL []) (fun i => if i = 9 then .val (.int .i64 (sizeN t)) else .below 0) (by kernel_rfl) ?_
      have hs : sizeN t = 513 ∨ sizeN t = 129 := by unfold sizeN; split <;> simp
      by_cases hb : base < 0
      · simp (maxSteps := 2000000) only [↓vP0, vQ0, vT0, simprocAttr, dT hb]
        exact exit_keep (L1 := [AObj.ro (ints .i64 st) 3]) ⟨by rw [askErr, if_neg (not_not_intro ho), if_neg (by simp), if_pos (.inl hb)], rfl⟩ trivial hkeep
      · simp (maxSteps := 2000000) only [↓vP0, vQ0, vT0, simprocAttr, dN hb]
        refine pureK_of (c_r8size t) rfl rfl ?_
        simp (maxSteps := 2000000) only [↓vP0, vQ0, vT0, simprocAttr]
        simp (disch := omega) only [wr64, wru64, wru8, tdv, tmd, fdv]
        by_cases hc : (st.length : Int) - sizeN t < base
        · simp (maxSteps := 2000000) only [↓vP0, vQ0, vT0, simprocAttr, dT hc]
          exact exit_keep (L1 := [AObj.ro (ints .i64 st) 3]) ⟨by rw [askErr, if_neg (not_not_intro ho), if_neg (by simp), if_pos (.inr hc)], rfl⟩ trivial hkeep
        · simp (maxSteps := 2000000) only [↓vP0, vQ0, vT0, simprocAttr, dN hc]
          exact exit_keep (L1 := [AObj.ro (ints .i64 st) 3]) ⟨by rw [askErr, if_neg (not_not_intro ho), if_neg (by simp), if_neg (by omega)], rfl⟩ trivial hkeep
  · simp (maxSteps := 2000000) only [↓vP0, vQ0, vT0, simprocAttr, dN ho]
    exact exit_keep (L1 := [AObj.ro (ints .i64 st) 3]) ⟨by rw [askErr, if_pos ho], rfl⟩ trivial hkeep
theorem c_refFits (t dx dy : Int) (ht : t = 0 ∨ t = 1) (ty : Bool) (kd : Int) (base : Int) (k : Int) (st : List Int) (hl : st.length ≤ 8192) :
    LCall Try.prog 87 [.agg [.int .i64 k, .slice 0 0 st.length], .int .i64 base, optV t dx dy ty kd] [.ro (ints .i64 st) 3] fun r L =>
      r = .bool (decide (0 ≤ base ∧ base ≤ (st.length : Int) - sizeN t)) ∧ L = [.ro (ints .i64 st) 3] := by
  have hkeep : keepL 1 [AObj.ro (ints .i64 st) 3] [AObj.ro (ints .i64 st) 3] := ⟨⟨rfl, by rw [okIns_ints]; trivial⟩, trivial⟩
  refine lcall_of_vc tyok Try.func87 rfl (by rfl) Try.results87 Try.ntmps87 ?_; intro C hD
  simp (maxSteps := 2000000) only [↓vP0, vQ0, vT0, simprocAttr]
  refine drawK_of tyok rfl (usL []) (fun i => if i = 9 then .val (.int .i64 (if t = 0 then 512 else 128)) else .below 0) (by kernel_rfl) ?_
  have hs : sizeN t = (if t = 0 then 512 else 128) + 1 := by unfold sizeN; split <;> rfl
  have hs2 : (if t = 0 then 512 else 128 : Int) ≤ 512 ∧ 0 ≤ (if t = 0 then 512 else 128 : Int) := by split <;> omega
  by_cases hb : 0 ≤ base
  · simp (maxSteps := 2000000) only [↓vP0, vQ0, vT0, simprocAttr, dT hb]
    refine pureK_of (c_contexts t ht) rfl rfl ?_
    rw [hs]
    generalize (if t = 0 then 512 else 128 : Int) = z at *
    simp (maxSteps := 2000000) only [↓vP0, vQ0, vT0, simprocAttr]
    simp (disch := omega) only [wr64, wru64, wru8, tdv, tmd, fdv]
    refine exit_keep (L1 := [AObj.ro (ints .i64 st) 3]) ⟨?_, rfl⟩ trivial hkeep
    by_cases hc : base ≤ (st.length : Int) - z - 1
    · rw [dT hc, dT (by omega)]
    · rw [dN hc, dN (by omega)]
  · simp (maxSteps := 2000000) only [↓vP0, vQ0, vT0, simprocAttr, dN hb]
    exact exit_keep (L1 := [AObj.ro (ints .i64 st) 3]) ⟨by rw [dN (by omega)], rfl⟩ trivial hkeep

theorem c_rFresh (t : Int) (n : Nat) (hz : (if t = 0 then 513 else 129 : Int) = n) (hn : n ≤ 8192) (dx dy : Int) (ty : Bool) (kd : Int) : LCall Try.prog 78 [optV t dx dy ty kd] [] fun r L =>
    r = .agg [.int .i64 kd, .slice 0 0 (zeros n).length] ∧ L = [.own (ints .i64 (zeros n)) 3] := by
  have hc := c_r8size t
  rw [hz] at hc
  refine lcall_of_vc tyok Try.func78 rfl (by rfl) Try.results78 Try.ntmps78 ?_; intro C hD
  simp (maxSteps := 2000000) only [↓vP0, vQ0, vT0, simprocAttr]
  refine drawK_of tyok rfl (usL [[], [5]]) (fun i => if i = 4 then .val (.int .i64 n) else .below 1) (by kernel_rfl) ?_
  simp (maxSteps := 2000000) only [↓vP0, vQ0, vT0, simprocAttr]
  refine pureK_of hc rfl rfl ?_
  simp (maxSteps := 2000000) only [↓vP0, vQ0, vT0, simprocAttr]
  refine chk_intro (by omega) ?_
  simp (maxSteps := 2000000) only [↓vP0, vQ0, vT0, simprocAttr]
  refine exit_of [2] (.agg [.int .i64 kd, .slice 0 0 (zeros n).length]) [.own (ints .i64 (zeros n)) 3] ⟨rfl, rfl⟩ ?_ ?_ rfl ?_ ?_
  all_goals simp [ren, rens, sg, sig, okIn, okIns, exK, leK, leF, leV, matK, objM, renO, roSame, lh, born, AObj.born, AObj.live, injOk, kindOf, rens_ints, okIns_ints, List.range, List.range.loop, mrg, mset, zeros]
end Go.Proofs.Ytbfefpkhalegmaa

set_option linter.unusedVariables false
set_option linter.unusedSimpArgs false
namespace Go.Proofs.Ytbfefpkhalegmaa
open Go
set_option maxHeartbeats 4000000
set_option maxRecDepth 20000

theorem c_blankBad (w v : Int) (hs : ¬ SizeOk w v) : LCall Try.prog 128 [.int .i64 w, .int .i64 v] [] fun r L =>
    r = .tup [.agg [.int .i64 0, .int .i64 0, .nilslice], .int .i64 4] ∧ L = [] := by
  have e : sizeB w v = false := by
    cases h : sizeB w v with
    | false => rfl
    | true => exact absurd ((sizeB_iff w v).1 h) hs
  refine lcall_of_vc tyok Try.func128 rfl (by rfl) Try.results128 Try.ntmps128 ?_; intro C hD
  simp (maxSteps := 2000000) only [↓vP0, vQ0, vT0, simprocAttr]
  refine callK_pure (c_bfits w v) rfl rfl ?_
  simp (maxSteps := 2000000) only [↓vP0, vQ0, vT0, simprocAttr, e]
  exact exit_keep (L1 := []) ⟨rfl, rfl⟩ (by simp [ren, rens, sg, sig, okIn, okIns, exK, leK, leF, leV, matK, objM, renO, roSame, lh, born, AObj.born, AObj.live, injOk, kindOf, rens_ints, okIns_ints, List.range, List.range.loop, mrg, mset]) trivial
theorem c_blank (w v : Int) (hs : SizeOk w v) (n : Nat) (hn : (n : Int) = w * v) : LCall Try.prog 128 [.int .i64 w, .int .i64 v] [] fun r L =>
    r = .tup [bmV w v 0 (zeros n).length, .int .i64 0] ∧ L = [.own (ints .u8 (zeros n)) 5] := by
  have e : sizeB w v = true := (sizeB_iff w v).2 hs
  have hm := area_bd hs.1 hs.2.1 hs.2.2.1 hs.2.2.2.1
  have ew : IntKind.i64.wrap (w * v) = (n : Int) := by rw [hn]; simp (disch := omega) only [wr64, wru64, wru8, tdv, tmd, fdv]
  have hn2 : n ≤ 8192 := by have := hs.2.2.2.2; omega
  refine lcall_of_vc tyok Try.func128 rfl (by rfl) Try.results128 Try.ntmps128 ?_; intro C hD
  simp (maxSteps := 2000000) only [↓vP0, vQ0, vT0, simprocAttr]
  refine callK_pure (c_bfits w v) rfl rfl ?_
  simp (maxSteps := 2000000) only [↓vP0, vQ0, vT0, simprocAttr, e, ew]
  refine chk_intro (by omega) ?_
  simp (maxSteps := 2000000) only [↓vP0, vQ0, vT0, simprocAttr]
  refine exit_of [1] (.tup [bmV w v 0 (zeros n).length, .int .i64 0]) [.own (ints .u8 (zeros n)) 5] ⟨rfl, rfl⟩ ?_ ?_ rfl ?_ ?_
  all_goals simp [ren, rens, sg, sig, okIn, okIns, exK, leK, leF, leV, matK, objM, renO, roSame, lh, born, AObj.born, AObj.live, injOk, kindOf, rens_ints, okIns_ints, List.range, List.range.loop, mrg, mset, zeros]

theorem zeros_set (n i : Nat) : (zeros n).set i 0 = zeros n := by
  unfold zeros
  apply List.ext_getElem?
  intro j
  rw [List.getElem?_set]
  split
  · rename_i h; subst h
    rw [List.getElem?_replicate, List.length_replicate]
  · rfl
theorem c_bNew (w v : Int) (hs : SizeOk w v) (n : Nat) (hn : (n : Int) = w * v) : LCall Try.prog 110 [.int .i64 w, .int .i64 v, .int .i64 0] [] fun r L =>
    r = .tup [bmV w v 0 (zeros n).length, .int .i64 0] ∧ L = [.own (ints .u8 (zeros n)) 5] := by
  obtain ⟨b0, b1, b2, b3, b4⟩ := id hs
  have hzl := zeros_len n
  have hn2 : n ≤ 8192 := by omega
  refine lcall_of_vc tyok Try.func110 rfl (by rfl) Try.results110 Try.ntmps110 ?_; intro C hD
  simp (maxSteps := 2000000) only [↓vP0, vQ0, vT0, simprocAttr, dN (show ¬ w < 0 by omega), dN (show ¬ v < 0 by omega)]
  refine callK_det (c_blank w v hs n hn) [] ?_ ?_ ?_ rfl (by simp) ?_
  · simp [ren, rens, sg, sig, okIn, okIns, exK, leK, leF, leV, matK, objM, renO, roSame, lh, born, AObj.born, AObj.live, injOk, kindOf, rens_ints, okIns_ints, List.range, List.range.loop, mrg, mset]
  · simp [ren, rens, sg, sig, okIn, okIns, exK, leK, leF, leV, matK, objM, renO, roSame, lh, born, AObj.born, AObj.live, injOk, kindOf, rens_ints, okIns_ints, List.range, List.range.loop, mrg, mset]
  · simp [ren, rens, sg, sig, okIn, okIns, exK, leK, leF, leV, matK, objM, renO, roSame, lh, born, AObj.born, AObj.live, injOk, kindOf, rens_ints, okIns_ints, List.range, List.range.loop, mrg, mset]
  simp (maxSteps := 2000000) only [↓vP0, vQ0, vT0, simprocAttr, hzl]
  refine loopK_of tyok hD (α := Nat) (fun i => i ≤ n) (fun i => n - i) (fun i => [.junk, .junk, .int .i64 0, .junk, .junk, .junk, .ptr 0 0, .junk, .ptr 2 0, .int .i64 0, .junk, .junk, .junk, .junk, .junk, .junk, .junk, .junk, .junk, .junk, .junk, .junk, .junk, .junk, .junk, .junk, .junk, .junk, .junk, .junk, .junk, .junk, .junk, .junk, .int .i64 n, .int .i64 i, .junk, .junk, .junk, .junk, .junk, .junk, .junk, .junk, .junk, .junk, .junk])
    (fun i => [.own [.int .i64 0, .int .i64 0, .nilslice] 48, .own (ints .u8 (zeros n)) 5, bmC w v 1 n]) 0 (by omega) ?_ ?_
  · (refine ⟨by simp [leF, leV] <;> rfl, ⟨_, by first | rfl | exact (List.append_nil _).symm⟩, by simp, by simp [okIns, okIn, okIns_ints], by simp [AObj.born, okIns, okIn, AObj.cells, okIns_ints]⟩)
  intro i hi
  simp (maxSteps := 2000000) only [↓vP0, vQ0, vT0, simprocAttr]
  (with_reducible first | refine condK_dec (fun h => ?_) (fun h => ?_) | refine condK_beq (fun h => ?_) (fun h => ?_) | refine condK_bne (fun h => ?_) (fun h => ?_) | refine condK_intro (fun h => ?_) (fun h => ?_))
  · have hil : i < (zeros n).length := by omega
    simp (maxSteps := 2000000) only [↓vP0, vQ0, vT0, simprocAttr]
    refine chk_intro (by omega) ?_
    have e8 : IntKind.u8.wrap 0 = 0 := by rfl
    simp (maxSteps := 2000000) only [↓vP0, vQ0, vT0, simprocAttr, e8]
    refine chk_intro (by omega) ?_
    simp (maxSteps := 2000000) only [↓vP0, vQ0, vT0, simprocAttr, ints_set, zeros_set, e8]
    simp (disch := omega) only [wr64, wru64, wru8, tdv, tmd, fdv]
    refine ⟨i + 1, by omega, by omega, ?_⟩
    simp only [Int.natCast_add, Int.cast_ofNat_Int]
    (refine ⟨by simp [leF, leV] <;> rfl, ⟨_, by first | rfl | exact (List.append_nil _).symm⟩, by simp, by simp [okIns, okIn, okIns_ints], by simp [AObj.born, okIns, okIn, AObj.cells, okIns_ints]⟩)
  · simp (maxSteps := 2000000) only [↓vP0, vQ0, vT0, simprocAttr]
    refine exit_of [1] (.tup [bmV w v 0 (zeros n).length, .int .i64 0]) [.own (ints .u8 (zeros n)) 5] ⟨rfl, rfl⟩ ?_ ?_ rfl ?_ ?_
    all_goals simp [ren, rens, sg, sig, okIn, okIns, exK, leK, leF, leV, matK, objM, renO, roSame, lh, born, AObj.born, AObj.live, injOk, kindOf, rens_ints, okIns_ints, List.range, List.range.loop, mrg, mset, zeros]

theorem c_bNewBad (w v : Int) (hs : ¬ SizeOk w v) : LCall Try.prog 110 [.int .i64 w, .int .i64 v, .int .i64 0] [] fun r L =>
    r = .tup [.agg [.int .i64 0, .int .i64 0, .nilslice], .int .i64 (if w < 0 ∨ v < 0 then 2 else 4)] ∧ L = [] := by
  refine lcall_of_vc tyok Try.func110 rfl (by rfl) Try.results110 Try.ntmps110 ?_; intro C hD
  by_cases h0 : w < 0
  · simp (maxSteps := 2000000) only [↓vP0, vQ0, vT0, simprocAttr, dT h0]
    exact exit_keep (L1 := []) ⟨by rw [if_pos (.inl h0)], rfl⟩ (by simp [ren, rens, sg, sig, okIn, okIns, exK, leK, leF, leV, matK, objM, renO, roSame, lh, born, AObj.born, AObj.live, injOk, kindOf, rens_ints, okIns_ints, List.range, List.range.loop, mrg, mset]) trivial
  · by_cases h1 : v < 0
    · simp (maxSteps := 2000000) only [↓vP0, vQ0, vT0, simprocAttr, dN h0, dT h1]
      exact exit_keep (L1 := []) ⟨by rw [if_pos (.inr h1)], rfl⟩ (by simp [ren, rens, sg, sig, okIn, okIns, exK, leK, leF, leV, matK, objM, renO, roSame, lh, born, AObj.born, AObj.live, injOk, kindOf, rens_ints, okIns_ints, List.range, List.range.loop, mrg, mset]) trivial
    · simp (maxSteps := 2000000) only [↓vP0, vQ0, vT0, simprocAttr, dN h0, dN h1]
      refine callK_pure (c_blankBad w v hs) rfl rfl ?_
      simp (maxSteps := 2000000) only [↓vP0, vQ0, vT0, simprocAttr]
      refine loopK_of tyok hD (α := Nat) (fun i => i = 0) (fun i => i) (fun i => [.junk, .junk, .int .i64 0, .junk, .junk, .junk, .ptr 0 0, .junk, .ptr 1 0, .int .i64 4, .junk, .junk, .junk, .junk, .junk, .junk, .junk, .junk, .junk, .junk, .junk, .junk, .junk, .junk, .junk, .junk, .junk, .junk, .junk, .junk, .junk, .junk, .junk, .junk, .int .i64 0, .int .i64 0, .junk, .junk, .junk, .junk, .junk, .junk, .junk, .junk, .junk, .junk, .junk])
        (fun i => [.own [.int .i64 0, .int .i64 0, .nilslice] 48, .own [.int .i64 0, .int .i64 0, .nilslice] 48]) 0 rfl ?_ ?_
      · (refine ⟨by simp [leF, leV] <;> rfl, ⟨_, by first | rfl | exact (List.append_nil _).symm⟩, by simp, by simp [okIns, okIn, okIns_ints], by simp [AObj.born, okIns, okIn, AObj.cells, okIns_ints]⟩)
      rintro i rfl
      simp (maxSteps := 2000000) only [↓vP0, vQ0, vT0, simprocAttr]
      exact exit_keep (L1 := []) ⟨by rw [if_neg (by omega)], rfl⟩ (by simp [ren, rens, sg, sig, okIn, okIns, exK, leK, leF, leV, matK, objM, renO, roSame, lh, born, AObj.born, AObj.live, injOk, kindOf, rens_ints, okIns_ints, List.range, List.range.loop, mrg, mset]) trivial
end Go.Proofs.Ytbfefpkhalegmaa

set_option linter.unusedVariables false
set_option linter.unusedSimpArgs false
namespace Go.Proofs.Ytbfefpkhalegmaa
open Go

section
variable (t dx dy : Int) (ty : Bool) (w v : Int) (p : List Int) (w' v' : Int) (q : List Int)
def pixEv (y x : Nat) : List (Nat × Int) :=
  if (ty && rowT dx dy w v p w' v' q y) && flatB dx dy w' v' q x y then [] else [((ctxOf t dx dy w v p w' v' q x y).toNat, pixAt w v p x y)]
def headEv (y : Nat) : List (Nat × Int) := if ty then [((sizeN t - 1).toNat, if rowT dx dy w v p w' v' q y then 1 else 0)] else []
def rowEv (y : Nat) : List (Nat × Int) := headEv t dx dy ty w v p w' v' q y ++ (List.range w.toNat).flatMap (pixEv t dx dy ty w v p w' v' q y)
def refEv : List (Nat × Int) := (List.range v.toNat).flatMap (rowEv t dx dy ty w v p w' v' q)
end
section
variable {t dx dy : Int} {ty : Bool} {w v : Int} {p : List Int} {w' v' : Int} {q : List Int}
theorem range_flat_succ {α : Type} (f : Nat → List α) (n : Nat) : (List.range (n + 1)).flatMap f = (List.range n).flatMap f ++ f n := by
  rw [List.range_succ, List.flatMap_append]; simp
theorem flatMap_len {α : Type} (f : Nat → List α) (k : Nat) (h : ∀ i, (f i).length ≤ k) : ∀ n, ((List.range n).flatMap f).length ≤ k * n
  | 0 => by simp
  | n + 1 => by
    rw [range_flat_succ, List.length_append, Nat.mul_succ]
    have := flatMap_len f k h n
    have := h n
    omega
theorem pixEv_ok (ht : t = 0 ∨ t = 1) (hp : PixOk p) (hq : PixOk q) (y x : Nat) : EvsOk (sizeN t).toNat (pixEv t dx dy ty w v p w' v' q y x) := by
  intro e he
  unfold pixEv at he
  split at he
  · simp at he
  · simp only [List.mem_singleton] at he
    subst he
    obtain ⟨a, b⟩ := ctx_bd (w := w) (v := v) (w' := w') (v' := v') hp hq t dx dy x y ht
    refine ⟨?_, pix01 hp w v x y⟩
    unfold sizeN
    rcases ht with rfl | rfl <;> simp at b ⊢ <;> omega
theorem headEv_ok (ht : t = 0 ∨ t = 1) (y : Nat) : EvsOk (sizeN t).toNat (headEv t dx dy ty w v p w' v' q y) := by
  intro e he
  unfold headEv at he
  split at he
  · simp only [List.mem_singleton] at he
    subst he
    refine ⟨?_, ?_⟩
    · unfold sizeN; rcases ht with rfl | rfl <;> simp
    · simp only [KdOk]; split <;> simp
  · simp at he
theorem rowEv_ok (ht : t = 0 ∨ t = 1) (hp : PixOk p) (hq : PixOk q) (y : Nat) : EvsOk (sizeN t).toNat (rowEv t dx dy ty w v p w' v' q y) := by
  intro e he
  rcases List.mem_append.1 he with he | he
  · exact headEv_ok ht y e he
  · obtain ⟨x, _, hx⟩ := List.mem_flatMap.1 he
    exact pixEv_ok ht hp hq y x e hx
theorem refEv_ok (ht : t = 0 ∨ t = 1) (hp : PixOk p) (hq : PixOk q) : EvsOk (sizeN t).toNat (refEv t dx dy ty w v p w' v' q) := by
  intro e he
  obtain ⟨y, _, hy⟩ := List.mem_flatMap.1 he
  exact rowEv_ok ht hp hq y e hy
theorem rowEv_len (hw : w ≤ 200) (y : Nat) : (rowEv t dx dy ty w v p w' v' q y).length ≤ 201 := by
  unfold rowEv
  rw [List.length_append]
  have h1 : (headEv t dx dy ty w v p w' v' q y).length ≤ 1 := by unfold headEv; split <;> simp
  have h2 := flatMap_len (pixEv t dx dy ty w v p w' v' q y) 1 (fun i => by unfold pixEv; split <;> simp) w.toNat
  omega
theorem refEv_len (hw : w ≤ 200) (hv : v ≤ 200) : (refEv t dx dy ty w v p w' v' q).length ≤ 40200 := by
  have := flatMap_len (rowEv t dx dy ty w v p w' v' q) 201 (rowEv_len hw) v.toNat
  unfold refEv
  omega
theorem rows_ok (ht : t = 0 ∨ t = 1) (hp : PixOk p) (hq : PixOk q) (n : Nat) : EvsOk (sizeN t).toNat ((List.range n).flatMap (rowEv t dx dy ty w v p w' v' q)) := by
  intro e he
  obtain ⟨y, _, hy⟩ := List.mem_flatMap.1 he
  exact rowEv_ok ht hp hq y e hy
theorem part_okEv (ht : t = 0 ∨ t = 1) (hp : PixOk p) (hq : PixOk q) (n y x : Nat) :
    EvsOk (sizeN t).toNat ((List.range n).flatMap (rowEv t dx dy ty w v p w' v' q) ++ headEv t dx dy ty w v p w' v' q y ++ (List.range x).flatMap (pixEv t dx dy ty w v p w' v' q y)) := by
  intro e he
  rcases List.mem_append.1 he with he | he
  · rcases List.mem_append.1 he with he | he
    · exact rows_ok ht hp hq n e he
    · exact headEv_ok ht y e he
  · obtain ⟨x, _, hx⟩ := List.mem_flatMap.1 he
    exact pixEv_ok ht hp hq y x e hx
theorem rows_len (hw : w ≤ 200) (n : Nat) : ((List.range n).flatMap (rowEv t dx dy ty w v p w' v' q)).length ≤ 201 * n := flatMap_len _ 201 (rowEv_len hw) n
theorem part_lenEv (hw : w ≤ 200) (n y x : Nat) (hn : n ≤ 200) (hx : x ≤ 200) :
    ((List.range n).flatMap (rowEv t dx dy ty w v p w' v' q) ++ headEv t dx dy ty w v p w' v' q y ++ (List.range x).flatMap (pixEv t dx dy ty w v p w' v' q y)).length ≤ 50000 := by
  have h1 := rows_len (t := t) (dx := dx) (dy := dy) (ty := ty) (w := w) (v := v) (p := p) (w' := w') (v' := v') (q := q) hw n
  have h2 : (headEv t dx dy ty w v p w' v' q y).length ≤ 1 := by unfold headEv; split <;> simp
  have h3 := flatMap_len (pixEv t dx dy ty w v p w' v' q y) 1 (fun i => by unfold pixEv; split <;> simp) x
  rw [List.length_append, List.length_append]
  omega
end
end Go.Proofs.Ytbfefpkhalegmaa

set_option linter.unusedVariables false
set_option linter.unusedSimpArgs false
namespace Go.Proofs.Ytbfefpkhalegmaa
open Go
set_option maxHeartbeats 4000000
set_option maxRecDepth 20000

theorem c_r8PutErr (e : Enc) (base : Int) (t dx dy : Int) (ty : Bool) (kd : Int) (w v w' v' : Int) (p q : List Int) (hp : p.length ≤ 9223372036854775807) (hq : q.length ≤ 9223372036854775807) (hl : e.st.length ≤ 8192)
    (hne : askErr t dx dy kd (bmB w v p && bmB w' v' q) base e.st.length ≠ 0) :
    LCall Try.prog 40 [.ptr 0 0, .int .i64 base, optV t dx dy ty kd, bmV w v 3 p.length, bmV w' v' 4 q.length] (rEncL e ++ pix2L p q) fun r L =>
      r = .int .i64 (askErr t dx dy kd (bmB w v p && bmB w' v' q) base e.st.length) ∧ L = rEncL e ++ pix2L p q := by
  refine lcall_of_vc tyok Try.func40 rfl (by rfl) Try.results40 Try.ntmps40 ?_; intro C hD
  simp only [rEncL, rEncC] at hD ⊢
  simp (maxSteps := 2000000) only [↓vP0, vQ0, vT0, simprocAttr]
  refine drawK_of tyok rfl (usL [[2, 5], [], [], [], [], [], [], [], [], [], [], [2, 5]]) (fun i => .below 8) (by kernel_rfl) ?_
  simp (maxSteps := 2000000) only [↓vP0, vQ0, vT0, simprocAttr]
  refine callK_read (c_rIsBitmap w v p hp) [3] ?_ ?_ ?_ rfl ?_
  · simp [ren, rens, sg, sig, okIn, okIns, exK, leK, leF, leV, matK, objM, renO, roSame, lh, born, AObj.born, AObj.live, injOk, kindOf, rens_ints, okIns_ints, List.range, List.range.loop, mrg, mset]
  · simp [ren, rens, sg, sig, okIn, okIns, exK, leK, leF, leV, matK, objM, renO, roSame, lh, born, AObj.born, AObj.live, injOk, kindOf, rens_ints, okIns_ints, List.range, List.range.loop, mrg, mset]
  · simp [ren, rens, sg, sig, okIn, okIns, exK, leK, leF, leV, matK, objM, renO, roSame, lh, born, AObj.born, AObj.live, injOk, kindOf, rens_ints, okIns_ints, List.range, List.range.loop, mrg, mset]
  have fin : ∀ (L : List AObj), True := fun _ => trivial
  cases hb1 : bmB w v p with
  | false =>
    rw [hb1, Bool.false_and] at hne
    simp (maxSteps := 2000000) only [↓vP0, vQ0, vT0, simprocAttr]
    refine callK_read (c_asked t dx dy ty kd false base e.kd e.st hl) [1] ?_ ?_ ?_ rfl ?_
    · simp [ren, rens, sg, sig, okIn, okIns, exK, leK, leF, leV, matK, objM, renO, roSame, lh, born, AObj.born, AObj.live, injOk, kindOf, rens_ints, okIns_ints, List.range, List.range.loop, mrg, mset]
    · simp [ren, rens, sg, sig, okIn, okIns, exK, leK, leF, leV, matK, objM, renO, roSame, lh, born, AObj.born, AObj.live, injOk, kindOf, rens_ints, okIns_ints, List.range, List.range.loop, mrg, mset]
    · simp [ren, rens, sg, sig, okIn, okIns, exK, leK, leF, leV, matK, objM, renO, roSame, lh, born, AObj.born, AObj.live, injOk, kindOf, rens_ints, okIns_ints, List.range, List.range.loop, mrg, mset]
    have e0 : (askErr t dx dy kd false base e.st.length != 0) = true := by simpa only [bne_iff_ne] using hne
    simp (maxSteps := 2000000) only [↓vP0, vQ0, vT0, simprocAttr, e0]
    exact exit_keep (L1 := rEncL e ++ pix2L p q) ⟨rfl, rfl⟩ trivial (by simp [rEncL, rEncC, keepL, keepO, okIns, okIn, okIns_ints])
  | true =>
    rw [hb1, Bool.true_and] at hne
    simp (maxSteps := 2000000) only [↓vP0, vQ0, vT0, simprocAttr]
    refine callK_read (c_rIsBitmap w' v' q hq) [4] ?_ ?_ ?_ rfl ?_
    · simp [ren, rens, sg, sig, okIn, okIns, exK, leK, leF, leV, matK, objM, renO, roSame, lh, born, AObj.born, AObj.live, injOk, kindOf, rens_ints, okIns_ints, List.range, List.range.loop, mrg, mset]
    · simp [ren, rens, sg, sig, okIn, okIns, exK, leK, leF, leV, matK, objM, renO, roSame, lh, born, AObj.born, AObj.live, injOk, kindOf, rens_ints, okIns_ints, List.range, List.range.loop, mrg, mset]
    · simp [ren, rens, sg, sig, okIn, okIns, exK, leK, leF, leV, matK, objM, renO, roSame, lh, born, AObj.born, AObj.live, injOk, kindOf, rens_ints, okIns_ints, List.range, List.range.loop, mrg, mset]
    simp (maxSteps := 2000000) only [↓vP0, vQ0, vT0, simprocAttr]
    refine callK_read (c_asked t dx dy ty kd (bmB w' v' q) base e.kd e.st hl) [1] ?_ ?_ ?_ rfl ?_
    · simp [ren, rens, sg, sig, okIn, okIns, exK, leK, leF, leV, matK, objM, renO, roSame, lh, born, AObj.born, AObj.live, injOk, kindOf, rens_ints, okIns_ints, List.range, List.range.loop, mrg, mset]
    · simp [ren, rens, sg, sig, okIn, okIns, exK, leK, leF, leV, matK, objM, renO, roSame, lh, born, AObj.born, AObj.live, injOk, kindOf, rens_ints, okIns_ints, List.range, List.range.loop, mrg, mset]
    · simp [ren, rens, sg, sig, okIn, okIns, exK, leK, leF, leV, matK, objM, renO, roSame, lh, born, AObj.born, AObj.live, injOk, kindOf, rens_ints, okIns_ints, List.range, List.range.loop, mrg, mset]
    have e0 : (askErr t dx dy kd (bmB w' v' q) base e.st.length != 0) = true := by simpa only [bne_iff_ne] using hne
    simp (maxSteps := 2000000) only [↓vP0, vQ0, vT0, simprocAttr, e0]
    exact exit_keep (L1 := rEncL e ++ pix2L p q) ⟨rfl, rfl⟩ trivial (by simp [rEncL, rEncC, keepL, keepO, okIns, okIn, okIns_ints])
end Go.Proofs.Ytbfefpkhalegmaa

set_option linter.unusedVariables false
set_option linter.unusedSimpArgs false
namespace Go.Proofs.Ytbfefpkhalegmaa
open Go
set_option maxHeartbeats 4000000
set_option maxRecDepth 20000

theorem c_refModel (t : Int) (ht : t = 0 ∨ t = 1) (n : Nat) (hz : sizeN t = n) (dx dy : Int) (ty : Bool) (kd : Int) (hk : KdOk kd) : LCall Try.prog 77 [optV t dx dy ty kd] [] fun r L =>
    r = .agg [.int .i64 kd, .slice 0 0 (zeros n).length] ∧ L = [.own (ints .i64 (zeros n)) 3] := by
  have hn : sizeN t = 513 ∨ sizeN t = 129 := by unfold sizeN; split <;> simp
  have hc := c_contexts t ht
  have hcx : (if t = 0 then 512 else 128 : Int) = (n : Int) - 1 := by rw [← hz]; unfold sizeN; split <;> rfl
  rw [hcx] at hc
  refine lcall_of_vc tyok Try.func77 rfl (by rfl) Try.results77 Try.ntmps77 ?_; intro C hD
  simp (maxSteps := 2000000) only [↓vP0, vQ0, vT0, simprocAttr]
  refine drawL_of tyok rfl [(10, 3, 60)] (usL [[], [10], [], [10]]) (fun i => if i = 4 then .val (.int .i64 ((n : Int) - 1)) else .fresh 2) (by kernel_rfl) ?_
  simp (maxSteps := 2000000) only [↓vP0, vQ0, vT0, simprocAttr]
  refine pureK_of hc rfl rfl ?_
  simp (maxSteps := 2000000) only [↓vP0, vQ0, vT0, simprocAttr]
  simp (disch := omega) only [wr64, wru64, wru8, tdv, tmd, fdv]
  rw [show (n : Int) - 1 + 1 = n by omega]
  refine callK_det (c_pNew kd hk n (by omega)) [] ?_ ?_ ?_ rfl (by simp) ?_
  · simp [ren, rens, sg, sig, okIn, okIns, exK, leK, leF, leV, matK, objM, renO, roSame, lh, born, AObj.born, AObj.live, injOk, kindOf, rens_ints, okIns_ints, List.range, List.range.loop, mrg, mset]
  · simp [ren, rens, sg, sig, okIn, okIns, exK, leK, leF, leV, matK, objM, renO, roSame, lh, born, AObj.born, AObj.live, injOk, kindOf, rens_ints, okIns_ints, List.range, List.range.loop, mrg, mset]
  · simp [ren, rens, sg, sig, okIn, okIns, exK, leK, leF, leV, matK, objM, renO, roSame, lh, born, AObj.born, AObj.live, injOk, kindOf, rens_ints, okIns_ints, List.range, List.range.loop, mrg, mset]
  simp (maxSteps := 2000000) only [↓vP0, vQ0, vT0, simprocAttr]
  refine exit_of [2] (.agg [.int .i64 kd, .slice 0 0 (zeros n).length]) ([.own (ints .i64 (zeros n)) 3]) ⟨rfl, rfl⟩ ?_ ?_ rfl ?_ ?_
  all_goals simp [ren, rens, sg, sig, okIn, okIns, exK, leK, leF, leV, matK, objM, renO, roSame, lh, born, AObj.born, AObj.live, injOk, kindOf, rens_ints, okIns_ints, List.range, List.range.loop, mrg, mset, zeros]
end Go.Proofs.Ytbfefpkhalegmaa

set_option linter.unusedVariables false
set_option linter.unusedSimpArgs false
namespace Go.Proofs.Ytbfefpkhalegmaa
open Go

structure RS where
  d : Dec
  p : List Int
  err : Int

section
variable (t dx dy : Int) (base : Nat) (w v w' v' : Int) (q : List Int)
def cxP (p : List Int) (y x : Nat) : Nat := base + (ctxOf t dx dy w v p w' v' q x y).toNat
def ixP (y x : Nat) : Nat := ((y : Int) * w + x).toNat
def rowRun (ty : Bool) (y : Nat) : Nat → Nat → Dec → List Int → RS
  | 0, x, d, p => ⟨d, p, 0⟩
  | n + 1, x, d, p =>
    if ty && flatB dx dy w' v' q x y then rowRun ty y n (x + 1) d (p.set (ixP w y x) (flatC dx dy w' v' q x y))
    else if d.err (cxP t dx dy base w v w' v' q p y x) ≠ 0 then ⟨d.after (cxP t dx dy base w v w' v' q p y x), p, d.err (cxP t dx dy base w v w' v' q p y x)⟩
    else rowRun ty y n (x + 1) (d.after (cxP t dx dy base w v w' v' q p y x)) (p.set (ixP w y x) (d.got (cxP t dx dy base w v w' v' q p y x)))
def rowAll (ty : Bool) (y : Nat) (d : Dec) (p : List Int) : RS :=
  if ty then
    if d.err (base + (sizeN t - 1).toNat) ≠ 0 then ⟨d.after (base + (sizeN t - 1).toNat), p, d.err (base + (sizeN t - 1).toNat)⟩
    else rowRun t dx dy base w v w' v' q (d.got (base + (sizeN t - 1).toNat) == 1) y w.toNat 0 (d.after (base + (sizeN t - 1).toNat)) p
  else rowRun t dx dy base w v w' v' q false y w.toNat 0 d p
def regRun (ty : Bool) : Nat → Nat → Dec → List Int → RS
  | 0, y, d, p => ⟨d, p, 0⟩
  | n + 1, y, d, p =>
    if (rowAll t dx dy base w v w' v' q ty y d p).err ≠ 0 then rowAll t dx dy base w v w' v' q ty y d p
    else regRun ty n (y + 1) (rowAll t dx dy base w v w' v' q ty y d p).d (rowAll t dx dy base w v w' v' q ty y d p).p
def regGet (ty : Bool) (d : Dec) : RS := regRun t dx dy base w v w' v' q ty v.toNat 0 d (zeros (w * v).toNat)
end

section
variable {t dx dy : Int} {base : Nat} {w v w' v' : Int} {q : List Int}
theorem flatC01 (hq : PixOk q) (dx dy w' v' x y : Int) : flatC dx dy w' v' q x y = 0 ∨ flatC dx dy w' v' q x y = 1 := by
  unfold flatC; split
  · exact pix01 hq _ _ _ _
  · exact .inl rfl
theorem PixOk.set {p : List Int} (hp : PixOk p) (i : Nat) {z : Int} (hz : z = 0 ∨ z = 1) : PixOk (p.set i z) := by
  intro y hy
  rcases List.mem_or_eq_of_mem_set hy with h | h
  · exact hp y h
  · rw [h]; exact hz
/-- What stays of a decoder and the pixels. -/
def RInv (d0 : Dec) (n : Nat) (d : Dec) (p : List Int) : Prop := Of d0 d ∧ PixOk p ∧ p.length = n
theorem cx_lt (ht : t = 0 ∨ t = 1) {p : List Int} (hp : PixOk p) (hq : PixOk q) (y x : Nat) : cxP t dx dy base w v w' v' q p y x + 1 ≤ base + (sizeN t).toNat := by
  obtain ⟨a, b⟩ := ctx_bd (w := w) (v := v) (w' := w') (v' := v') hp hq t dx dy x y ht
  unfold cxP sizeN
  rcases ht with rfl | rfl <;> simp at b ⊢ <;> omega
theorem rowRun_inv (ht : t = 0 ∨ t = 1) (hq : PixOk q) {d0 : Dec} {k : Nat} (hb : base + (sizeN t).toNat ≤ d0.st.length) (ty : Bool) (y : Nat) : ∀ (n x : Nat) (d : Dec) (p : List Int), RInv d0 k d p →
    RInv d0 k (rowRun t dx dy base w v w' v' q ty y n x d p).d (rowRun t dx dy base w v w' v' q ty y n x d p).p
  | 0, x, d, p, h => h
  | n + 1, x, d, p, h => by
    obtain ⟨h1, h2, h3⟩ := h
    have hc := cx_lt (t := t) (dx := dx) (dy := dy) (base := base) (w := w) (v := v) (w' := w') (v' := v') ht h2 hq y x
    unfold rowRun
    split
    · exact rowRun_inv ht hq hb ty y n (x + 1) d _ ⟨h1, h2.set _ (flatC01 hq ..), by simp [h3]⟩
    split
    · exact ⟨h1.after (by omega), h2, h3⟩
    · refine rowRun_inv ht hq hb ty y n (x + 1) _ _ ⟨h1.after (by omega), h2.set _ ?_, by simp [h3]⟩
      rcases derr d (cxP t dx dy base w v w' v' q p y x) with h | h
      · exact h.2
      · exact .inl h.2
theorem rowAll_inv (ht : t = 0 ∨ t = 1) (hq : PixOk q) {d0 : Dec} {k : Nat} (hb : base + (sizeN t).toNat ≤ d0.st.length) (ty : Bool) (y : Nat) (d : Dec) (p : List Int) (h : RInv d0 k d p) :
    RInv d0 k (rowAll t dx dy base w v w' v' q ty y d p).d (rowAll t dx dy base w v w' v' q ty y d p).p := by
  have hs : sizeN t = 513 ∨ sizeN t = 129 := by unfold sizeN; split <;> simp
  have h1 := h.1.after (c := base + (sizeN t - 1).toNat) (by omega)
  unfold rowAll
  split
  · split
    · exact ⟨h1, h.2.1, h.2.2⟩
    · exact rowRun_inv ht hq hb _ _ _ _ _ _ ⟨h1, h.2.1, h.2.2⟩
  · exact rowRun_inv ht hq hb _ _ _ _ _ _ h
theorem regRun_inv (ht : t = 0 ∨ t = 1) (hq : PixOk q) {d0 : Dec} {k : Nat} (hb : base + (sizeN t).toNat ≤ d0.st.length) (ty : Bool) : ∀ (n y : Nat) (d : Dec) (p : List Int), RInv d0 k d p →
    RInv d0 k (regRun t dx dy base w v w' v' q ty n y d p).d (regRun t dx dy base w v w' v' q ty n y d p).p
  | 0, y, d, p, h => h
  | n + 1, y, d, p, h => by
    have h1 := rowAll_inv (dx := dx) (dy := dy) (w := w) (v := v) (w' := w') (v' := v') ht hq hb ty y d p h
    unfold regRun
    split
    · exact h1
    · exact regRun_inv ht hq hb ty n (y + 1) _ _ h1

/-! What has been coded comes back. -/
def agree (p P : List Int) (k : Nat) : Prop := ∀ j, j < k → p.getD j 0 = P.getD j 0
theorem pix_agree {p P : List Int} {k : Nat} (h : agree p P k) (hw : 0 ≤ w) (x y : Int) (hk : y * w + x < k) (hk0 : 0 ≤ k) : pixAt w v p x y = pixAt w v P x y := by
  unfold pixAt
  split
  · rfl
  · rename_i hn
    have : 0 ≤ y * w := Int.mul_nonneg (by omega) hw
    exact h _ (by omega)
theorem acc_agree {p P : List Int} {k : Nat} (h : agree p P k) (hw : 0 ≤ w) (x y : Int) : ∀ (l : List (Int × Int)) (n : Int), (∀ o ∈ l, pixAt w v p (x + o.1) (y + o.2) = pixAt w v P (x + o.1) (y + o.2)) → accP w v p x y l n = accP w v P x y l n
  | [], n, _ => rfl
  | o :: l, n, hl => by
    show accP w v p x y l (2 * n + pixAt w v p (x + o.1) (y + o.2)) = accP w v P x y l (2 * n + pixAt w v P (x + o.1) (y + o.2))
    rw [hl o (List.mem_cons_self ..)]
    exact acc_agree h hw x y l _ fun o' ho => hl o' (List.mem_cons_of_mem _ ho)
theorem ixP_eq (hw : 0 ≤ w) (y x : Nat) : (ixP w y x : Int) = (y : Int) * w + x := by
  unfold ixP
  have : 0 ≤ (y : Int) * w := Int.mul_nonneg (by omega) hw
  omega
theorem ctx_agree {p P : List Int} (hw : 0 ≤ w) (y x : Nat) (hx : (x : Int) < w) (h : agree p P (ixP w y x)) : ctxOf t dx dy w v p w' v' q x y = ctxOf t dx dy w v P w' v' q x y := by
  unfold ctxOf
  have hi := ixP_eq hw y x
  rw [acc_agree h hw x y (freshP t) 0 ?_]
  intro o ho
  have key : ∀ a b : Int, (b = -1 ∧ a ≤ 1) ∨ (b = 0 ∧ a ≤ -1) → pixAt w v p (x + a) (y + b) = pixAt w v P (x + a) (y + b) := by
    intro a b hab
    by_cases hout : (x : Int) + a < 0 ∨ (y : Int) + b < 0 ∨ w ≤ x + a ∨ v ≤ y + b
    · simp only [pixAt, if_pos hout]
    · refine pix_agree h hw _ _ ?_ (by omega)
      rw [hi]
      rcases hab with ⟨rfl, h1⟩ | ⟨rfl, h1⟩
      · rw [Int.add_mul]; omega
      · rw [Int.add_zero]; omega
  unfold freshP at ho
  split at ho
  · simp only [List.mem_cons, List.not_mem_nil, or_false] at ho
    rcases ho with rfl | rfl | rfl | rfl <;> exact key _ _ (by omega)
  · simp only [List.mem_cons, List.not_mem_nil, or_false] at ho
    rcases ho with rfl | rfl <;> exact key _ _ (by omega)
theorem agree_set {p P : List Int} {k : Nat} (h : agree p P k) (hk : k < p.length) : agree (p.set k (P.getD k 0)) P (k + 1) := by
  intro j hj
  rw [List.getD_eq_getElem?_getD, List.getElem?_set]
  split
  · rename_i e; subst e
    simp [hk]
  · have := h j (by omega)
    rw [← this, List.getD_eq_getElem?_getD]
theorem pixAt_get {P : List Int} (hw : 0 ≤ w) (y x : Nat) (hx : (x : Int) < w) (hy : (y : Int) < v) : pixAt w v P x y = P.getD (ixP w y x) 0 := by
  unfold pixAt
  rw [if_neg (by omega)]
  rfl
theorem ixP_lt (hw : 0 ≤ w) (y x : Nat) (hx : (x : Int) < w) (hy : (y : Int) < v) : (ixP w y x : Int) < w * v := by
  have := (at_bd (w := w) (h := v) (x := x) (y := y) (by omega) hx (by omega) hy).2
  rw [ixP_eq hw]; exact this
theorem ixP_succ (hw : 0 ≤ w) (y x : Nat) : ixP w y (x + 1) = ixP w y x + 1 := by
  have := ixP_eq hw y x
  have := ixP_eq hw y (x + 1)
  omega
theorem ixP_row (hw : 0 ≤ w) (y : Nat) : ixP w y w.toNat = ixP w (y + 1) 0 := by
  have := ixP_eq hw y w.toNat
  have := ixP_eq hw (y + 1) 0
  have : ((y + 1 : Nat) : Int) * w = (y : Int) * w + w := by rw [Int.natCast_add, Int.add_mul]; omega
  omega

theorem rowRun_feeds {P : List Int} (hb : BmOk w v P) {ty : Bool} {y : Nat} (hy : (y : Int) < v) (d' : Dec) : ∀ (n x : Nat) (d : Dec) (p : List Int), (x + n : Int) = w → p.length = P.length → agree p P (ixP w y x) →
    Feeds d (mv base ((List.range' x n).flatMap (pixEv t dx dy ty w v P w' v' q y))) d' →
    ∃ p', rowRun t dx dy base w v w' v' q (ty && rowT dx dy w v P w' v' q y) y n x d p = ⟨d', p', 0⟩ ∧ p'.length = P.length ∧ agree p' P (ixP w (y + 1) 0)
  | 0, x, d, p, hx, hl, ha, hf => by
    have hw : 0 ≤ w := hb.1.1
    simp [mv, Feeds] at hf
    subst hf
    refine ⟨p, rfl, hl, ?_⟩
    rw [← ixP_row hw, show w.toNat = x by omega]; exact ha
  | n + 1, x, d, p, hx, hl, ha, hf => by
    have hw : 0 ≤ w := hb.1.1
    have hxw : (x : Int) < w := by omega
    have hlt := ixP_lt hw y x hxw hy
    have hpl : ixP w y x < p.length := by have := hb.2; omega
    rw [List.range'_succ, List.flatMap_cons, mv_app] at hf
    have hcx : cxP t dx dy base w v w' v' q p y x = base + (ctxOf t dx dy w v P w' v' q x y).toNat := by unfold cxP; rw [ctx_agree hw y x hxw ha]
    unfold rowRun
    by_cases hflat : ((ty && rowT dx dy w v P w' v' q y) && flatB dx dy w' v' q x y) = true
    · rw [if_pos hflat]
      have hpe : pixEv t dx dy ty w v P w' v' q y x = [] := by unfold pixEv; rw [if_pos hflat]
      rw [hpe] at hf
      simp only [Bool.and_eq_true] at hflat
      have hrow := hflat.1.2
      have hcol : flatC dx dy w' v' q x y = P.getD (ixP w y x) 0 := by
        unfold rowT at hrow
        have := List.all_eq_true.1 hrow x (List.mem_range.2 (by omega))
        simp only [likeB, hflat.2, Bool.not_true, Bool.false_or, beq_iff_eq] at this
        rw [← this, pixAt_get hw y x hxw hy]
      rw [hcol]
      exact rowRun_feeds hb hy d' n (x + 1) d _ (by omega) (by simp [hl]) (by rw [ixP_succ hw]; exact agree_set ha hpl) (by simpa [mv] using hf)
    · rw [if_neg hflat]
      have hpe : pixEv t dx dy ty w v P w' v' q y x = [((ctxOf t dx dy w v P w' v' q x y).toNat, pixAt w v P x y)] := by unfold pixEv; rw [if_neg hflat]
      rw [hpe] at hf
      obtain ⟨h1, h2, h3⟩ := feeds_get (show Feeds d ((base + (ctxOf t dx dy w v P w' v' q x y).toNat, pixAt w v P x y) :: mv base ((List.range' (x + 1) n).flatMap (pixEv t dx dy ty w v P w' v' q y))) d' from hf)
      rw [hcx, if_neg (by rw [h1]; simp), h2, pixAt_get hw y x hxw hy]
      exact rowRun_feeds hb hy d' n (x + 1) _ _ (by omega) (by simp [hl]) (by rw [ixP_succ hw]; exact agree_set ha hpl) h3
theorem rowAll_feeds {P : List Int} (hb : BmOk w v P) {ty : Bool} {y : Nat} (hy : (y : Int) < v) {d d' : Dec} {p : List Int} (hl : p.length = P.length) (ha : agree p P (ixP w y 0))
    (hf : Feeds d (mv base (rowEv t dx dy ty w v P w' v' q y)) d') : ∃ p', rowAll t dx dy base w v w' v' q ty y d p = ⟨d', p', 0⟩ ∧ p'.length = P.length ∧ agree p' P (ixP w (y + 1) 0) := by
  have hw : 0 ≤ w := hb.1.1
  unfold rowEv headEv at hf
  rw [List.range_eq_range'] at hf
  unfold rowAll
  cases ty with
  | false =>
    simp only [Bool.false_eq_true, if_false, List.nil_append] at hf ⊢
    have := rowRun_feeds (t := t) (dx := dx) (dy := dy) (base := base) (w' := w') (v' := v') (q := q) hb (ty := false) hy d' w.toNat 0 d p (by omega) hl ha hf
    simpa using this
  | true =>
    simp only [if_true] at hf ⊢
    rw [mv_app] at hf
    obtain ⟨h1, h2, h3⟩ := feeds_get (show Feeds d ((base + (sizeN t - 1).toNat, if rowT dx dy w v P w' v' q y then 1 else 0) :: mv base ((List.range' 0 w.toNat).flatMap (pixEv t dx dy true w v P w' v' q y))) d' from hf)
    rw [if_neg (by rw [h1]; simp), h2]
    have e : ((if rowT dx dy w v P w' v' q y then (1 : Int) else 0) == 1) = (true && rowT dx dy w v P w' v' q y) := by cases rowT dx dy w v P w' v' q y <;> rfl
    rw [e]
    exact rowRun_feeds hb hy d' w.toNat 0 _ p (by omega) hl ha h3
theorem regRun_feeds {P : List Int} (hb : BmOk w v P) {ty : Bool} (d' : Dec) : ∀ (n y : Nat) (d : Dec) (p : List Int), (y + n : Int) = v → p.length = P.length → agree p P (ixP w y 0) →
    Feeds d (mv base ((List.range' y n).flatMap (rowEv t dx dy ty w v P w' v' q))) d' → regRun t dx dy base w v w' v' q ty n y d p = ⟨d', P, 0⟩
  | 0, y, d, p, hy, hl, ha, hf => by
    have hw : 0 ≤ w := hb.1.1
    simp [mv, Feeds] at hf
    subst hf
    unfold regRun
    have hall : p = P := by
      apply List.ext_getElem?
      intro j
      by_cases hj : j < P.length
      · have h1 := ixP_eq hw y 0
        have h2 : w * v = (y : Int) * w := by rw [show (y : Int) = v by omega, Int.mul_comm]
        have h3 := ha j (by have := hb.2; omega)
        rw [List.getD_eq_getElem?_getD, List.getD_eq_getElem?_getD, List.getElem?_eq_getElem (by omega), List.getElem?_eq_getElem hj] at h3
        rw [List.getElem?_eq_getElem (by omega), List.getElem?_eq_getElem hj]
        simpa using h3
      · rw [List.getElem?_eq_none (by omega), List.getElem?_eq_none (by omega)]
    rw [hall]
  | n + 1, y, d, p, hy, hl, ha, hf => by
    rw [List.range'_succ, List.flatMap_cons, mv_app] at hf
    obtain ⟨d1, h1, h2⟩ := Feeds.app _ _ _ _ hf
    obtain ⟨p', e, h3, h4⟩ := rowAll_feeds hb (by omega) hl ha h1
    unfold regRun
    rw [e, if_neg (by simp)]
    exact regRun_feeds hb d' n (y + 1) d1 p' (by omega) h3 h4 h2
theorem regGet_feeds {P : List Int} (hb : BmOk w v P) {ty : Bool} {d d' : Dec} (hf : Feeds d (mv base (refEv t dx dy ty w v P w' v' q)) d') : regGet t dx dy base w v w' v' q ty d = ⟨d', P, 0⟩ := by
  have hw : 0 ≤ w := hb.1.1
  have hv : 0 ≤ v := hb.1.2.2.1
  unfold refEv at hf
  rw [List.range_eq_range'] at hf
  refine regRun_feeds hb d' v.toNat 0 d _ (by omega) ?_ ?_ hf
  · rw [zeros_len]; have := hb.2; omega
  · intro j hj
    have := ixP_eq hw 0 0
    simp at this; omega
end
end Go.Proofs.Ytbfefpkhalegmaa
