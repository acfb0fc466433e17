/- Contracts: new models; small functions of number. -/
import Derived.Test.YtbfefpkhalegmaaC3
import Derived.KernelRfl
import Derived.Test.YtbfefpkhalegmaaT1
import Derived.Below
import Derived.OpenShut
import Derived.ChangeOld
import Derived.Deep.SlicePairs

set_option linter.unusedVariables false
set_option linter.unusedSimpArgs false
namespace Go.Proofs.Ytbfefpkhalegmaa
open Go
set_option maxHeartbeats 4000000
set_option maxRecDepth 20000

def zeros (n : Nat) : List Int := List.replicate n 0
theorem zeros_len (n : Nat) : (zeros n).length = n := by simp [zeros]
theorem zeros_ok {kd : Int} (hk : KdOk kd) {n : Nat} (hn : n ≤ 8192) : StsOk kd (zeros n) := by
  refine ⟨hk, by simpa [zeros] using hn, fun s hs => ?_⟩
  have : s = 0 := by simp [zeros] at hs; exact hs.2
  subst this
  unfold StOk; split <;> omega

theorem c_pNew (kd : Int) (hk : KdOk kd) (n : Nat) (hn : n ≤ 8192) : LCall Try.prog 52 [.int .i64 kd, .int .i64 n] [] fun r L =>
    r = .tup [.agg [.int .i64 kd, .slice 0 0 (zeros n).length], .int .i64 0] ∧ L = [.own (ints .i64 (zeros n)) 3] := by
  have e1 : decide ((n : Int) < 0) = false := decide_eq_false (by omega)
  have e2 : decide ((8192 : Int) < (n : Int)) = false := decide_eq_false (by omega)
  refine lcall_of_vc tyok Try.func52 rfl (by rfl) Try.results52 Try.ntmps52 ?_; intro C hD
  rcases hk with rfl | rfl
  all_goals
    simp (maxSteps := 2000000) only [↓vP0, vQ0, vT0, simprocAttr, e1, e2]
    refine chk_intro (by omega) ?_
    simp (maxSteps := 2000000) only [↓vP0, vQ0, vT0, simprocAttr]
    refine exit_of [1] (.tup [.agg [.int .i64 _, .slice 0 0 (zeros n).length], .int .i64 0]) [.own (ints .i64 (zeros n)) 3] ⟨rfl, rfl⟩ ?_ ?_ rfl ?_ ?_
    all_goals simp [ren, rens, sg, sig, okIn, okIns, exK, leK, leF, leV, matK, objM, renO, roSame, lh, born, AObj.born, AObj.live, injOk, kindOf, rens_ints, okIns_ints, List.range, List.range.loop, mrg, mset, zeros]
theorem c_pNewBad (kd : Int) (hk : ¬ KdOk kd) (n : Int) : LCall Try.prog 52 [.int .i64 kd, .int .i64 n] [] fun r L =>
    r = .tup [.agg [.int .i64 0, .nilslice], .int .i64 2] ∧ L = [] := by
  have e1 : (kd != 0) = true := by simp; intro h; exact hk (.inl h)
  have e2 : (kd != 1) = true := by simp; intro h; exact hk (.inr h)
  refine lcall_of_vc tyok Try.func52 rfl (by rfl) Try.results52 Try.ntmps52 ?_; intro C hD
  simp (maxSteps := 2000000) only [↓vP0, vQ0, vT0, simprocAttr, e1, e2]
  exact exit_keep (L1 := []) ⟨rfl, rfl⟩ (by simp [ren, rens, sg, sig, okIn, okIns, exK, leK, leF, leV, matK, objM, renO, roSame, lh, born, AObj.born, AObj.live, injOk, kindOf, rens_ints, okIns_ints, List.range, List.range.loop, mrg, mset]) trivial
theorem c_rNew (kd : Int) (hk : KdOk kd) (n : Nat) (hn : n ≤ 8192) : LCall Try.prog 53 [.int .i64 kd, .int .i64 n] [] fun r L =>
    r = .tup [.agg [.int .i64 kd, .slice 0 0 (zeros n).length], .int .i64 0] ∧ L = [.own (ints .i64 (zeros n)) 3] := by
  have e1 : decide ((n : Int) < 0) = false := decide_eq_false (by omega)
  have e2 : decide ((8192 : Int) < (n : Int)) = false := decide_eq_false (by omega)
  refine lcall_of_vc tyok Try.func53 rfl (by rfl) Try.results53 Try.ntmps53 ?_; intro C hD
  rcases hk with rfl | rfl
  all_goals
    simp (maxSteps := 2000000) only [↓vP0, vQ0, vT0, simprocAttr, e1, e2]
    refine chk_intro (by omega) ?_
    simp (maxSteps := 2000000) only [↓vP0, vQ0, vT0, simprocAttr]
    refine exit_of [1] (.tup [.agg [.int .i64 _, .slice 0 0 (zeros n).length], .int .i64 0]) [.own (ints .i64 (zeros n)) 3] ⟨rfl, rfl⟩ ?_ ?_ rfl ?_ ?_
    all_goals simp [ren, rens, sg, sig, okIn, okIns, exK, leK, leF, leV, matK, objM, renO, roSame, lh, born, AObj.born, AObj.live, injOk, kindOf, rens_ints, okIns_ints, List.range, List.range.loop, mrg, mset, zeros]
theorem c_rNewBad (kd : Int) (hk : ¬ KdOk kd) (n : Int) : LCall Try.prog 53 [.int .i64 kd, .int .i64 n] [] fun r L =>
    r = .tup [.agg [.int .i64 0, .nilslice], .int .i64 2] ∧ L = [] := by
  have e1 : (kd != 0) = true := by simp; intro h; exact hk (.inl h)
  have e2 : (kd != 1) = true := by simp; intro h; exact hk (.inr h)
  refine lcall_of_vc tyok Try.func53 rfl (by rfl) Try.results53 Try.ntmps53 ?_; intro C hD
  simp (maxSteps := 2000000) only [↓vP0, vQ0, vT0, simprocAttr, e1, e2]
  exact exit_keep (L1 := []) ⟨rfl, rfl⟩ (by simp [ren, rens, sg, sig, okIn, okIns, exK, leK, leF, leV, matK, objM, renO, roSame, lh, born, AObj.born, AObj.live, injOk, kindOf, rens_ints, okIns_ints, List.range, List.range.loop, mrg, mset]) trivial

abbrev numV (none : Bool) (n : Int) : AV := .agg [.bool none, .int .i64 n]
def numB (none : Bool) (n : Int) : Bool := if none then n == 0 else decide (-1048576 ≤ n) && decide (n ≤ 1048576)
theorem numB_iff (none : Bool) (n : Int) : numB none n = true ↔ NumOk none n := by
  cases none <;> simp [numB, NumOk]
theorem c_pNumValid (none : Bool) (n : Int) : LCall Try.prog 69 [numV none n] [] fun r L => r = .bool (numB none n) ∧ L = [] := by
  refine lcall_of_vc tyok Try.func69 rfl (by rfl) Try.results69 Try.ntmps69 ?_; intro C hD
  cases none with
  | true =>
    simp (maxSteps := 2000000) only [↓vP0, vQ0, vT0, simprocAttr]
    exact exit_keep (L1 := []) ⟨rfl, rfl⟩ trivial trivial
  | false =>
    by_cases h1 : -1048576 ≤ n
    · have e1 : decide (-1048576 ≤ n) = true := decide_eq_true h1
      simp (maxSteps := 2000000) only [↓vP0, vQ0, vT0, simprocAttr, e1]
      exact exit_keep (L1 := []) ⟨by simp [numB, h1], rfl⟩ trivial trivial
    · have e1 : decide (-1048576 ≤ n) = false := decide_eq_false h1
      simp (maxSteps := 2000000) only [↓vP0, vQ0, vT0, simprocAttr, e1]
      exact exit_keep (L1 := []) ⟨by simp [numB, h1], rfl⟩ trivial trivial
theorem c_rNumValid (none : Bool) (n : Int) : LCall Try.prog 14 [numV none n] [] fun r L => r = .bool (numB none n) ∧ L = [] := by
  refine lcall_of_vc tyok Try.func14 rfl (by rfl) Try.results14 Try.ntmps14 ?_; intro C hD
  cases none with
  | true =>
    simp (maxSteps := 2000000) only [↓vP0, vQ0, vT0, simprocAttr]
    exact exit_keep (L1 := []) ⟨rfl, rfl⟩ trivial trivial
  | false =>
    by_cases h1 : -1048576 ≤ n
    · have e1 : decide (-1048576 ≤ n) = true := decide_eq_true h1
      simp (maxSteps := 2000000) only [↓vP0, vQ0, vT0, simprocAttr, e1]
      exact exit_keep (L1 := []) ⟨by simp [numB, h1], rfl⟩ trivial trivial
    · have e1 : decide (-1048576 ≤ n) = false := decide_eq_false h1
      simp (maxSteps := 2000000) only [↓vP0, vQ0, vT0, simprocAttr, e1]
      exact exit_keep (L1 := []) ⟨by simp [numB, h1], rfl⟩ trivial trivial

theorem c_ntake (x : Int) (h0 : 0 ≤ x) (h1 : x ≤ 1000) : LCall Try.prog 118 [.ptr 0 0] [.own [.int .i64 x] 166] fun r L => r = .int .i64 x ∧ L = [.own [.int .i64 (min (x + 1) 47)] 166] := by
  refine lcall_of_vc tyok Try.func118 rfl (by rfl) Try.results118 Try.ntmps118 ?_; intro C hD
  simp (maxSteps := 2000000) only [↓vP0, vQ0, vT0, simprocAttr]
  simp (disch := omega) only [wr64, wru64, wru8, tdv, tmd, fdv]
  exact exit_keep0 ⟨rfl, rfl⟩ trivial ⟨by simp [keepO, okIns, okIn], trivial⟩
theorem c_fits (kd : Int) (st : List Int) (hl : st.length ≤ 8192) (base n : Int) (h0 : 0 ≤ n) (h1 : n ≤ 100000) (hb : -9223372036854775808 ≤ base ∧ base ≤ 9223372036854775807) :
    LCall Try.prog 114 [.agg [.int .i64 kd, .slice 0 0 st.length], .int .i64 base, .int .i64 n] [.ro (ints .i64 st) 3] fun r L =>
      r = .int .i64 (if base < 0 ∨ (st.length : Int) - n < base then 2 else 0) ∧ L = [.ro (ints .i64 st) 3] := by
  refine lcall_of_vc tyok Try.func114 rfl (by rfl) Try.results114 Try.ntmps114 ?_; intro C hD
  by_cases hb0 : base < 0
  · have e1 : decide (base < 0) = true := decide_eq_true hb0
    simp (maxSteps := 2000000) only [↓vP0, vQ0, vT0, simprocAttr, e1]
    exact exit_keep (L1 := [.ro (ints .i64 st) 3]) ⟨by rw [if_pos (.inl hb0)], rfl⟩ trivial ⟨⟨rfl, by rw [okIns_ints]; trivial⟩, trivial⟩
  · have e1 : decide (base < 0) = false := decide_eq_false hb0
    simp (maxSteps := 2000000) only [↓vP0, vQ0, vT0, simprocAttr, e1]
    simp (disch := omega) only [wr64, wru64, wru8, tdv, tmd, fdv]
    (with_reducible first | refine condK_dec (fun h => ?_) (fun h => ?_) | refine condK_beq (fun h => ?_) (fun h => ?_) | refine condK_bne (fun h => ?_) (fun h => ?_) | refine condK_intro (fun h => ?_) (fun h => ?_))
    · simp (maxSteps := 2000000) only [↓vP0, vQ0, vT0, simprocAttr]
      exact exit_keep (L1 := [.ro (ints .i64 st) 3]) ⟨by rw [if_pos (.inr h)], rfl⟩ trivial ⟨⟨rfl, by rw [okIns_ints]; trivial⟩, trivial⟩
    · simp (maxSteps := 2000000) only [↓vP0, vQ0, vT0, simprocAttr]
      exact exit_keep (L1 := [.ro (ints .i64 st) 3]) ⟨by rw [if_neg (by omega)], rfl⟩ trivial ⟨⟨rfl, by rw [okIns_ints]; trivial⟩, trivial⟩
end Go.Proofs.Ytbfefpkhalegmaa

set_option linter.unusedVariables false
set_option linter.unusedSimpArgs false
namespace Go.Proofs.Ytbfefpkhalegmaa
open Go
set_option maxHeartbeats 4000000
set_option maxRecDepth 20000

def flat : List (Nat × Int) → List Int
  | [] => []
  | (c, b) :: l => (c : Int) :: b :: flat l
def evF (l : List (Nat × Int)) : List AV := ints .i64 (flat l)
theorem flat_len : ∀ l, (flat l).length = l.length * 2
  | [] => rfl
  | (c, b) :: l => by simp [flat, flat_len l]; omega
theorem flat_app : ∀ l m, flat (l ++ m) = flat l ++ flat m
  | [], m => rfl
  | (c, b) :: l, m => by simp [flat, flat_app l m]
theorem evF_len (l : List (Nat × Int)) : (evF l).length = l.length * 2 := by simp [evF, ints_length, flat_len]
theorem evF_cell1 (l : List (Nat × Int)) : (evF l).all AV.cell1 = true := ints_cell1 _ _
theorem evF_rens (σ : Nat → Nat) (l : List (Nat × Int)) : rens σ (evF l) = evF l := rens_ints _ _ _
theorem evF_okIns (B : Nat → Prop) (l : List (Nat × Int)) : okIns B (evF l) = True := okIns_ints _ _ _
theorem evF_snoc (l : List (Nat × Int)) (c : Nat) (a b : Int) (h : a = c) : evF l ++ [.int .i64 a, .int .i64 b] = evF (l ++ [(c, b)]) := by
  subst h; simp [evF, flat_app, flat, ints]
theorem evF_cons (c : Nat) (a b : Int) (h : a = c) : [AV.int .i64 a, .int .i64 b] = evF [(c, b)] := by subst h; rfl
theorem flat_drop : ∀ (l : List (Nat × Int)) (i : Nat), (flat l).drop (i * 2) = flat (l.drop i)
  | l, 0 => by simp
  | [], i + 1 => by simp [flat]
  | (c, b) :: l, i + 1 => by
    rw [show (i + 1) * 2 = i * 2 + 2 by omega]
    simp [flat, flat_drop l i]
theorem evF_get (l : List (Nat × Int)) (i : Nat) (h : i < l.length) : ((evF l).drop (i * 2)).take 2 = [.int .i64 ((l.getD i (0, 0)).1 : Nat), .int .i64 (l.getD i (0, 0)).2] := by
  rw [evF, ints_drop, flat_drop, ints_take, List.drop_eq_getElem_cons h]
  have : l.getD i (0, 0) = l[i] := by simp [List.getD_eq_getElem?_getD, List.getElem?_eq_getElem h]
  rw [this]
  obtain ⟨c, b⟩ := l[i]
  simp [flat, ints]
theorem mv_app (b : Nat) (l m : List (Nat × Int)) : mv b (l ++ m) = mv b l ++ mv b m := by simp [mv]
theorem mv_len (b : Nat) (l : List (Nat × Int)) : (mv b l).length = l.length := by simp [mv]
theorem mv_one (b c : Nat) (x : Int) : mv b [(c, x)] = [(b + c, x)] := rfl
theorem derr (d : Dec) (c : Nat) : (d.err c = 0 ∧ KdOk (d.got c)) ∨ (d.err c = 6 ∧ d.got c = 0) := by
  unfold Dec.err Dec.got
  split
  · exact .inr ⟨rfl, rfl⟩
  · exact .inl ⟨rfl, dbit_ok d c⟩
/-- A decoder that reads on in the same code. -/
def Of (d D : Dec) : Prop := D.Ok ∧ D.kd = d.kd ∧ D.st.length = d.st.length ∧ D.code = d.code
theorem Of.after {d D : Dec} (h : Of d D) {c : Nat} (hc : c < d.st.length) : Of d (D.after c) := by
  obtain ⟨a, b, c', e⟩ := h
  obtain ⟨a1, a2, a3, a4⟩ := dafter_ok a (c := c) (by omega)
  exact ⟨a1, a2.trans b, a3.trans c', a4.trans e⟩
theorem mv_zero (l : List (Nat × Int)) : mv 0 l = l := by simp [mv]
theorem encNew_ok {kd : Int} {st : List Int} (h : StsOk kd st) : (encNew kd st).Ok := ⟨h, ⟨by simp [encNew], by simp [encNew], by simp [encNew]⟩, by simp [encNew]⟩
theorem decNew_ok {kd : Int} {st code : List Int} (h : StsOk kd st) (hb : ByOk code) : (decNew kd st code).Ok := ⟨h, ⟨by simp [decNew], by simp [decNew], by simp [decNew]⟩, by simp [decNew], hb, by simp [decNew]⟩
theorem take_eq_of {α : Type} {l m : List α} {d : α} {i : Nat} (h : l.take i = m.take i) (hl : i < l.length) (hm : i < m.length) (he : l.getD i d = m.getD i d) : l.take (i + 1) = m.take (i + 1) := by
  rw [List.take_succ_eq_append_getElem hl, List.take_succ_eq_append_getElem hm, h]
  have e1 : l.getD i d = l[i] := by simp [List.getD_eq_getElem?_getD, List.getElem?_eq_getElem hl]
  have e2 : m.getD i d = m[i] := by simp [List.getD_eq_getElem?_getD, List.getElem?_eq_getElem hm]
  rw [← e1, ← e2, he]
end Go.Proofs.Ytbfefpkhalegmaa

set_option linter.unusedVariables false
set_option linter.unusedSimpArgs false
namespace Go.Proofs.Ytbfefpkhalegmaa
open Go
set_option maxHeartbeats 4000000
set_option maxRecDepth 20000

theorem c_SameBytes (p q : List Int) (hp : p.length ≤ 9223372036854775807) (hq : q.length ≤ 9223372036854775807) : LCall Try.prog 31 [.slice 0 0 p.length, .slice 1 0 q.length] [.ro (ints .u8 p) 5, .ro (ints .u8 q) 5] fun r L =>
    r = .bool (decide (p = q)) ∧ L = [.ro (ints .u8 p) 5, .ro (ints .u8 q) 5] := by
  have hkeep : keepL 2 [AObj.ro (ints .u8 p) 5, .ro (ints .u8 q) 5] [AObj.ro (ints .u8 p) 5, .ro (ints .u8 q) 5] := ⟨⟨rfl, by rw [okIns_ints]; trivial⟩, ⟨rfl, by rw [okIns_ints]; trivial⟩, trivial⟩
  refine lcall_of_vc tyok Try.func31 rfl (by rfl) Try.results31 Try.ntmps31 ?_; intro C hD
  simp (maxSteps := 2000000) only [↓vP0, vQ0, vT0, simprocAttr]
  (with_reducible first | refine condK_dec (fun h => ?_) (fun h => ?_) | refine condK_beq (fun h => ?_) (fun h => ?_) | refine condK_bne (fun h => ?_) (fun h => ?_) | refine condK_intro (fun h => ?_) (fun h => ?_))
  · have hne : p ≠ q := fun e => by subst e; exact h rfl
    simp (maxSteps := 2000000) only [↓vP0, vQ0, vT0, simprocAttr]
    exact exit_keep0 ⟨by rw [decide_eq_false hne], rfl⟩ trivial hkeep
  · have hlen : p.length = q.length := by omega
    simp (maxSteps := 2000000) only [↓vP0, vQ0, vT0, simprocAttr]
    refine loopK_of tyok hD (α := Nat) (fun i => i ≤ p.length ∧ p.take i = q.take i) (fun i => p.length - i) (fun i => [.slice 0 0 p.length, .slice 1 0 q.length, .junk, .junk, .junk, .junk, .junk, .junk, .junk, .junk, .junk, .junk, .int .i64 p.length, .int .i64 i, .junk, .junk, .junk, .junk, .junk, .junk, .junk, .junk, .junk, .junk, .junk, .junk])
      (fun i => [.ro (ints .u8 p) 5, .ro (ints .u8 q) 5]) 0 ⟨by omega, by simp⟩ ?_ ?_
    · (refine ⟨by simp [leF, leV] <;> rfl, ⟨_, by first | rfl | exact (List.append_nil _).symm⟩, by simp, by simp [okIns, okIn, okIns_ints], by simp [AObj.born, okIns, okIn, AObj.cells, okIns_ints]⟩)
    rintro i ⟨hi, htk⟩
    simp (maxSteps := 2000000) only [↓vP0, vQ0, vT0, simprocAttr]
    (with_reducible first | refine condK_dec (fun h => ?_) (fun h => ?_) | refine condK_beq (fun h => ?_) (fun h => ?_) | refine condK_bne (fun h => ?_) (fun h => ?_) | refine condK_intro (fun h => ?_) (fun h => ?_))
    · have hil : i < p.length := by omega
      have him : i < q.length := by omega
      have g1 := ints_get .u8 p i hil
      have g2 := ints_get .u8 q i him
      simp (maxSteps := 2000000) only [↓vP0, vQ0, vT0, simprocAttr]
      refine drawK_of tyok rfl (usL []) (fun i => .below 0) (by kernel_rfl) ?_
      simp (maxSteps := 2000000) only [↓vP0, vQ0, vT0, simprocAttr]
      refine chk_intro (by omega) ?_
      simp (maxSteps := 2000000) only [↓vP0, vQ0, vT0, simprocAttr, g1]
      refine chk_intro (by omega) ?_
      simp (maxSteps := 2000000) only [↓vP0, vQ0, vT0, simprocAttr, g2]
      by_cases he : p.getD i 0 = q.getD i 0
      · have e0 : (p.getD i 0 != q.getD i 0) = false := by rw [he]; simp
        simp (maxSteps := 2000000) only [↓vP0, vQ0, vT0, simprocAttr, e0]
        simp (disch := omega) only [wr64, wru64, wru8, tdv, tmd, fdv]
        refine ⟨i + 1, ⟨by omega, take_eq_of htk hil him he⟩, by omega, ?_⟩
        simp only [Int.natCast_add, Int.cast_ofNat_Int]
        (refine ⟨by simp [leF, leV] <;> rfl, ⟨_, by first | rfl | exact (List.append_nil _).symm⟩, by simp, by simp [okIns, okIn, okIns_ints], by simp [AObj.born, okIns, okIn, AObj.cells, okIns_ints]⟩)
      · have e0 : (p.getD i 0 != q.getD i 0) = true := by simpa only [bne_iff_ne] using he
        have hne : p ≠ q := fun e => he (by rw [e])
        simp (maxSteps := 2000000) only [↓vP0, vQ0, vT0, simprocAttr, e0]
        exact exit_keep0 ⟨by rw [decide_eq_false hne], rfl⟩ trivial hkeep
    · have hpq : p = q := by
        rw [List.take_of_length_le (by omega), List.take_of_length_le (by omega)] at htk; exact htk
      simp (maxSteps := 2000000) only [↓vP0, vQ0, vT0, simprocAttr]
      exact exit_keep0 ⟨by rw [decide_eq_true hpq], rfl⟩ trivial hkeep
theorem c_SameInts (p q : List Int) (hp : p.length ≤ 9223372036854775807) (hq : q.length ≤ 9223372036854775807) : LCall Try.prog 106 [.slice 0 0 p.length, .slice 1 0 q.length] [.ro (ints .i64 p) 3, .ro (ints .i64 q) 3] fun r L =>
    r = .bool (decide (p = q)) ∧ L = [.ro (ints .i64 p) 3, .ro (ints .i64 q) 3] := by
  have hkeep : keepL 2 [AObj.ro (ints .i64 p) 3, .ro (ints .i64 q) 3] [AObj.ro (ints .i64 p) 3, .ro (ints .i64 q) 3] := ⟨⟨rfl, by rw [okIns_ints]; trivial⟩, ⟨rfl, by rw [okIns_ints]; trivial⟩, trivial⟩
  refine lcall_of_vc tyok Try.func106 rfl (by rfl) Try.results106 Try.ntmps106 ?_; intro C hD
  simp (maxSteps := 2000000) only [↓vP0, vQ0, vT0, simprocAttr]
  (with_reducible first | refine condK_dec (fun h => ?_) (fun h => ?_) | refine condK_beq (fun h => ?_) (fun h => ?_) | refine condK_bne (fun h => ?_) (fun h => ?_) | refine condK_intro (fun h => ?_) (fun h => ?_))
  · have hne : p ≠ q := fun e => by subst e; exact h rfl
    simp (maxSteps := 2000000) only [↓vP0, vQ0, vT0, simprocAttr]
    exact exit_keep0 ⟨by rw [decide_eq_false hne], rfl⟩ trivial hkeep
  · have hlen : p.length = q.length := by omega
    simp (maxSteps := 2000000) only [↓vP0, vQ0, vT0, simprocAttr]
    refine loopK_of tyok hD (α := Nat) (fun i => i ≤ p.length ∧ p.take i = q.take i) (fun i => p.length - i) (fun i => [.slice 0 0 p.length, .slice 1 0 q.length, .junk, .junk, .junk, .junk, .junk, .junk, .junk, .junk, .junk, .junk, .int .i64 p.length, .int .i64 i, .junk, .junk, .junk, .junk, .junk, .junk, .junk, .junk, .junk, .junk, .junk, .junk])
      (fun i => [.ro (ints .i64 p) 3, .ro (ints .i64 q) 3]) 0 ⟨by omega, by simp⟩ ?_ ?_
    · (refine ⟨by simp [leF, leV] <;> rfl, ⟨_, by first | rfl | exact (List.append_nil _).symm⟩, by simp, by simp [okIns, okIn, okIns_ints], by simp [AObj.born, okIns, okIn, AObj.cells, okIns_ints]⟩)
    rintro i ⟨hi, htk⟩
    simp (maxSteps := 2000000) only [↓vP0, vQ0, vT0, simprocAttr]
    (with_reducible first | refine condK_dec (fun h => ?_) (fun h => ?_) | refine condK_beq (fun h => ?_) (fun h => ?_) | refine condK_bne (fun h => ?_) (fun h => ?_) | refine condK_intro (fun h => ?_) (fun h => ?_))
    · have hil : i < p.length := by omega
      have him : i < q.length := by omega
      have g1 := ints_get .i64 p i hil
      have g2 := ints_get .i64 q i him
      simp (maxSteps := 2000000) only [↓vP0, vQ0, vT0, simprocAttr]
      refine drawK_of tyok rfl (usL []) (fun i => .below 0) (by kernel_rfl) ?_
      simp (maxSteps := 2000000) only [↓vP0, vQ0, vT0, simprocAttr]
      refine chk_intro (by omega) ?_
      simp (maxSteps := 2000000) only [↓vP0, vQ0, vT0, simprocAttr, g1]
      refine chk_intro (by omega) ?_
      simp (maxSteps := 2000000) only [↓vP0, vQ0, vT0, simprocAttr, g2]
      by_cases he : p.getD i 0 = q.getD i 0
      · have e0 : (p.getD i 0 != q.getD i 0) = false := by rw [he]; simp
        simp (maxSteps := 2000000) only [↓vP0, vQ0, vT0, simprocAttr, e0]
        simp (disch := omega) only [wr64, wru64, wru8, tdv, tmd, fdv]
        refine ⟨i + 1, ⟨by omega, take_eq_of htk hil him he⟩, by omega, ?_⟩
        simp only [Int.natCast_add, Int.cast_ofNat_Int]
        (refine ⟨by simp [leF, leV] <;> rfl, ⟨_, by first | rfl | exact (List.append_nil _).symm⟩, by simp, by simp [okIns, okIn, okIns_ints], by simp [AObj.born, okIns, okIn, AObj.cells, okIns_ints]⟩)
      · have e0 : (p.getD i 0 != q.getD i 0) = true := by simpa only [bne_iff_ne] using he
        have hne : p ≠ q := fun e => he (by rw [e])
        simp (maxSteps := 2000000) only [↓vP0, vQ0, vT0, simprocAttr, e0]
        exact exit_keep0 ⟨by rw [decide_eq_false hne], rfl⟩ trivial hkeep
    · have hpq : p = q := by
        rw [List.take_of_length_le (by omega), List.take_of_length_le (by omega)] at htk; exact htk
      simp (maxSteps := 2000000) only [↓vP0, vQ0, vT0, simprocAttr]
      exact exit_keep0 ⟨by rw [decide_eq_true hpq], rfl⟩ trivial hkeep
theorem c_SameModel (k k' : Int) (p q : List Int) (hp : p.length ≤ 9223372036854775807) (hq : q.length ≤ 9223372036854775807) : LCall Try.prog 44 [.agg [.int .i64 k, .slice 0 0 p.length], .agg [.int .i64 k', .slice 1 0 q.length]] [.ro (ints .i64 p) 3, .ro (ints .i64 q) 3] fun r L =>
    r = .bool (decide (k = k' ∧ p = q)) ∧ L = [.ro (ints .i64 p) 3, .ro (ints .i64 q) 3] := by
  have hkeep : keepL 2 [AObj.ro (ints .i64 p) 3, .ro (ints .i64 q) 3] [AObj.ro (ints .i64 p) 3, .ro (ints .i64 q) 3] := ⟨⟨rfl, by rw [okIns_ints]; trivial⟩, ⟨rfl, by rw [okIns_ints]; trivial⟩, trivial⟩
  refine lcall_of_vc tyok Try.func44 rfl (by rfl) Try.results44 Try.ntmps44 ?_; intro C hD
  by_cases he : k = k'
  · have e0 : (k == k') = true := by simpa using he
    simp (maxSteps := 2000000) only [↓vP0, vQ0, vT0, simprocAttr, e0]
    refine callK_read (c_SameInts p q hp hq) [0, 1] ?_ ?_ ?_ rfl ?_
    · simp [ren, rens, sg, sig, okIn, okIns, exK, leK, leF, leV, matK, objM, renO, roSame, lh, born, AObj.born, AObj.live, injOk, kindOf, rens_ints, okIns_ints, List.range, List.range.loop, mrg, mset]
    · simp [ren, rens, sg, sig, okIn, okIns, exK, leK, leF, leV, matK, objM, renO, roSame, lh, born, AObj.born, AObj.live, injOk, kindOf, rens_ints, okIns_ints, List.range, List.range.loop, mrg, mset]
    · simp [ren, rens, sg, sig, okIn, okIns, exK, leK, leF, leV, matK, objM, renO, roSame, lh, born, AObj.born, AObj.live, injOk, kindOf, rens_ints, okIns_ints, List.range, List.range.loop, mrg, mset]
    simp (maxSteps := 2000000) only [↓vP0, vQ0, vT0, simprocAttr]
    refine exit_keep (L1 := [.ro (ints .i64 p) 3, .ro (ints .i64 q) 3]) ⟨?_, rfl⟩ trivial hkeep
    by_cases h2 : p = q
    · rw [decide_eq_true h2, decide_eq_true ⟨he, h2⟩]
    · rw [decide_eq_false h2, decide_eq_false (fun h => h2 h.2)]
  · have e0 : (k == k') = false := by simpa using he
    simp (maxSteps := 2000000) only [↓vP0, vQ0, vT0, simprocAttr, e0]
    exact exit_keep (L1 := [.ro (ints .i64 p) 3, .ro (ints .i64 q) 3]) ⟨by rw [decide_eq_false (fun h => he h.1)], rfl⟩ trivial hkeep
end Go.Proofs.Ytbfefpkhalegmaa

set_option linter.unusedVariables false
set_option linter.unusedSimpArgs false
namespace Go.Proofs.Ytbfefpkhalegmaa
open Go Go.RowKit

/-- Arguments that are read alone: where they lie, and what stands there. -/
structure RoArg where
  cs : List AV
  e : TypeId
  blk : Nat
  base : Nat
def roL (l : List RoArg) : List AObj := l.map fun x => .ro x.cs x.e
def roP (l : List RoArg) (i : Nat) : Pl := match l[i]? with | some x => ⟨x.blk, x.base, false, 0, 0⟩ | none => ⟨0, 0, false, 0, 0⟩
theorem roL_get (l : List RoArg) (i : Nat) : lh (roL l) i = match l[i]? with | some x => .ro x.cs x.e | none => .unborn := by
  unfold lh roL
  rw [List.getD_eq_getElem?_getD, List.getElem?_map]
  cases l[i]? <;> rfl
theorem sim_ro {P : Program} {W : World} {l : List RoArg} (h : ∀ x ∈ l, CRel (born (lh (roL l))) (roP l) x.cs (fun j => W.cell? ⟨x.blk, x.base + j, none⟩)) : Sim P (roP l) (lh (roL l)) W := by
  refine ⟨fun i cs e he => ?_, fun i cs e he => ?_, fun i j hij hi hj => ?_⟩
  · rw [roL_get] at he
    cases hx : l[i]? <;> simp [hx] at he
  · rw [roL_get] at he
    cases hx : l[i]? with
    | none => simp [hx] at he
    | some x =>
      simp only [hx, AObj.ro.injEq] at he
      obtain ⟨rfl, rfl⟩ := he
      have hp : roP l i = ⟨x.blk, x.base, false, 0, 0⟩ := by simp [roP, hx]
      rw [hp]
      exact ⟨by simp, h x (List.mem_of_getElem? hx)⟩
  · have := hi.1
    rw [roL_get] at this
    cases hx : l[i]? <;> simp [hx, AObj.isOwn] at this

theorem calls_law {P : Program} {f : FuncId} {W : World} {l : List RoArg} {args : List AV} {vargs : List Value} (c : LCall P f args (roL l) fun r L => r = .bool true ∧ L = roL l) (hs : Sim P (roP l) (lh (roL l)) W)
    (hv : VsRel (born (lh (roL l))) (roP l) args vargs) : Calls P f vargs.toArray W fun e w' => e = .returned (.bool true) ∧ Below W.heap.size W w' := by
  refine Calls.mono (c.2 (roP l) W vargs hs hv) ?_
  rintro e w' ⟨ρ', r, h', v, rfl, ⟨L', rfl, _, _, rfl, rfl⟩, hsim, hr, hk, _, _⟩
  refine ⟨by rw [hr.bool_inv], ⟨hk.os, hk.tape, hk.output, hk.size, fun k hlt => hk.block k hlt ?_⟩⟩
  rintro ⟨i, hi, rfl⟩
  have := hi.1
  rw [roL_get] at this
  cases hx : l[i]? <;> simp [hx, AObj.isOwn] at this

/-- A slice of whole numbers that came in. -/
def IsRow (k : IntKind) (w : World) (a : Option Addr) (len cap : Nat) (zs : List Int) : Prop :=
  (a = none ∧ len = 0 ∧ cap = 0 ∧ zs = []) ∨
  ∃ x, a = some x ∧ len ≤ cap ∧ cap ≤ maxLen ∧ zs.length = cap ∧ (∀ i, i < zs.length → w.cell? (x.add i) = some (.int k (zs.getD i 0))) ∧ ∀ n ∈ zs, (Lit.int k n).wf = true
theorem row_ints {k : IntKind} {W : World} {a : Option Addr} {len cap : Nat} {zs : List Int} (h : IsRow k W a len cap zs) (e : TypeId) : ∃ x : RoArg, x.cs = ints k (zs.take len) ∧ x.e = e ∧ (zs.take len).length = len ∧ len ≤ maxLen ∧
    (∀ n ∈ zs.take len, (Lit.int k n).wf = true) ∧
    (∀ B ρ, CRel B ρ x.cs (fun j => W.cell? ⟨x.blk, x.base + j, none⟩)) ∧ ∀ (B : Nat → Prop) (ρ : Nat → Pl) (i : Nat), B i → ρ i = ⟨x.blk, x.base, false, 0, 0⟩ → VRel B ρ (.slice i 0 len) (.slice a len cap) := by
  rcases h with ⟨rfl, rfl, rfl, rfl⟩ | ⟨x, rfl, hl, hm, hz, hc, hw⟩
  · refine ⟨⟨[], e, 0, 0⟩, rfl, rfl, rfl, by omega, by simp, fun B ρ j v hv => by simp at hv, fun B ρ i hb _ => .slice0 i 0 none hb⟩
  · by_cases h0 : cap = 0
    · have : zs = [] := List.length_eq_zero_iff.1 (by omega)
      have hl0 : len = 0 := by omega
      subst h0 this hl0
      refine ⟨⟨[], e, 0, 0⟩, rfl, rfl, rfl, by omega, by simp, fun B ρ j v hv => by simp at hv, fun B ρ i hb _ => .slice0 i 0 (some x) hb⟩
    · obtain ⟨b, o, sp⟩ := x
      have hc0 := hc 0 (by omega)
      have hsp : sp = none := by simpa [Addr.add] using World.cell?_spot hc0
      subst hsp
      have htk : (zs.take len).length = len := by simp; omega
      refine ⟨⟨ints k (zs.take len), e, b, o⟩, rfl, rfl, htk, by omega, fun n hn => hw n (List.mem_of_mem_take hn), fun B ρ j v hv => ?_, fun B ρ i hb hp => ?_⟩
      · have hj : j < (zs.take len).length := by
          have := (List.getElem?_eq_some_iff.1 hv).1; simpa [ints] using this
        rw [ints_get _ _ _ hj] at hv
        injection hv with hv
        subst hv
        have hjz : j < zs.length := by omega
        refine ⟨.int k (zs.getD j 0), ?_, ?_⟩
        · have := hc j hjz
          rwa [addr_add] at this
        · have e1 : (zs.take len).getD j 0 = zs.getD j 0 := by
            have hj' : j < len := by omega
            simp [List.getD_eq_getElem?_getD, List.getElem?_take, hj']
          rw [e1]; exact .int k _
      · have := VRel.slice (B := B) (ρ := ρ) i 0 len cap hb hl (fun h => by rw [hp] at h; cases h)
        rw [hp] at this
        exact this
theorem wf_u8 {n : Int} (h : (Lit.int .u8 n).wf = true) : 0 ≤ n ∧ n ≤ 255 := by
  have h1 : (decide (IntKind.min .u8 ≤ n) && decide (n ≤ IntKind.max .u8)) = true := h
  simp only [Bool.and_eq_true, decide_eq_true_eq] at h1
  exact h1
theorem wf_i64 {n : Int} (h : (Lit.int .i64 n).wf = true) : -9223372036854775808 ≤ n ∧ n ≤ 9223372036854775807 := by
  have h1 : (decide (IntKind.min .i64 ≤ n) && decide (n ≤ IntKind.max .i64)) = true := h
  simp only [Bool.and_eq_true, decide_eq_true_eq] at h1
  exact h1
end Go.Proofs.Ytbfefpkhalegmaa
