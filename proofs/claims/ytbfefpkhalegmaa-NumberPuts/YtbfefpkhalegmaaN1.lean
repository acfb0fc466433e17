/- Contracts: new models; small functions of number. -/
import Derived.Test.YtbfefpkhalegmaaC3
import Derived.Test.YtbfefpkhalegmaaT1
import Derived.Lib.Strings
import Derived.Lib.Slices
import Derived.Lib.Small
import Derived.Lib.Walk
import Derived.Lib.BitFns

set_option linter.unusedVariables false
set_option linter.unusedSimpArgs false
namespace Go.Proofs.Ytbfefpkhalegmaa
open Go
set_option maxHeartbeats 4000000
set_option maxRecDepth 20000

def zeros (n : Nat) : List Int := List.replicate n 0
theorem zeros_len (n : Nat) : (zeros n).length = n := by simp [zeros]
theorem zeros_ok {kd : Int} (hk : KdOk kd) {n : Nat} (hn : n ≤ 8192) : StsOk kd (zeros n) := by
  refine ⟨hk, by simpa [zeros] using hn, fun s hs => ?_⟩
  have : s = 0 := by simp [zeros] at hs; exact hs.2
  subst this
  unfold StOk; split <;> omega

theorem c_pNew (kd : Int) (hk : KdOk kd) (n : Nat) (hn : n ≤ 8192) : LCall Try.prog 52 [.int .i64 kd, .int .i64 n] [] fun r L =>
    r = .tup [.agg [.int .i64 kd, .slice 0 0 (zeros n).length], .int .i64 0] ∧ L = [.own (ints .i64 (zeros n)) 3] := by
  have e1 : decide ((n : Int) < 0) = false := decide_eq_false (by omega)
  have e2 : decide ((8192 : Int) < (n : Int)) = false := decide_eq_false (by omega)
  refine lcall_of_vc tyok Try.func52 rfl (by rfl) Try.results52 Try.ntmps52 ?_; intro C hD
  rcases hk with rfl | rfl
  all_goals
    simp (maxSteps := 2000000) only [↓vP0, vQ0, vT0, simprocAttr, e1, e2]
    refine chk_intro (by omega) ?_
    simp (maxSteps := 2000000) only [↓vP0, vQ0, vT0, simprocAttr]
    refine exit_of [1] (.tup [.agg [.int .i64 _, .slice 0 0 (zeros n).length], .int .i64 0]) [.own (ints .i64 (zeros n)) 3] ⟨rfl, rfl⟩ ?_ ?_ rfl ?_ ?_
    all_goals simp [ren, rens, sg, sig, okIn, okIns, exK, leK, leF, leV, matK, objM, renO, roSame, lh, born, AObj.born, AObj.live, injOk, kindOf, rens_ints, okIns_ints, List.range, List.range.loop, mrg, mset, zeros]
theorem c_pNewBad (kd : Int) (hk : ¬ KdOk kd) (n : Int) : LCall Try.prog 52 [.int .i64 kd, .int .i64 n] [] fun r L =>
    r = .tup [.agg [.int .i64 0, .nilslice], .int .i64 2] ∧ L = [] := by
  have e1 : (kd != 0) = true := by simp; intro h; exact hk (.inl h)
  have e2 : (kd != 1) = true := by simp; intro h; exact hk (.inr h)
  refine lcall_of_vc tyok Try.func52 rfl (by rfl) Try.results52 Try.ntmps52 ?_; intro C hD
  simp (maxSteps := 2000000) only [↓vP0, vQ0, vT0, simprocAttr, e1, e2]
  exact exit_keep (L1 := []) ⟨rfl, rfl⟩ (by simp [ren, rens, sg, sig, okIn, okIns, exK, leK, leF, leV, matK, objM, renO, roSame, lh, born, AObj.born, AObj.live, injOk, kindOf, rens_ints, okIns_ints, List.range, List.range.loop, mrg, mset]) trivial
theorem c_rNew (kd : Int) (hk : KdOk kd) (n : Nat) (hn : n ≤ 8192) : LCall Try.prog 53 [.int .i64 kd, .int .i64 n] [] fun r L =>
    r = .tup [.agg [.int .i64 kd, .slice 0 0 (zeros n).length], .int .i64 0] ∧ L = [.own (ints .i64 (zeros n)) 3] := by
  have e1 : decide ((n : Int) < 0) = false := decide_eq_false (by omega)
  have e2 : decide ((8192 : Int) < (n : Int)) = false := decide_eq_false (by omega)
  refine lcall_of_vc tyok Try.func53 rfl (by rfl) Try.results53 Try.ntmps53 ?_; intro C hD
  rcases hk with rfl | rfl
  all_goals
    simp (maxSteps := 2000000) only [↓vP0, vQ0, vT0, simprocAttr, e1, e2]
    refine chk_intro (by omega) ?_
    simp (maxSteps := 2000000) only [↓vP0, vQ0, vT0, simprocAttr]
    refine exit_of [1] (.tup [.agg [.int .i64 _, .slice 0 0 (zeros n).length], .int .i64 0]) [.own (ints .i64 (zeros n)) 3] ⟨rfl, rfl⟩ ?_ ?_ rfl ?_ ?_
    all_goals simp [ren, rens, sg, sig, okIn, okIns, exK, leK, leF, leV, matK, objM, renO, roSame, lh, born, AObj.born, AObj.live, injOk, kindOf, rens_ints, okIns_ints, List.range, List.range.loop, mrg, mset, zeros]
theorem c_rNewBad (kd : Int) (hk : ¬ KdOk kd) (n : Int) : LCall Try.prog 53 [.int .i64 kd, .int .i64 n] [] fun r L =>
    r = .tup [.agg [.int .i64 0, .nilslice], .int .i64 2] ∧ L = [] := by
  have e1 : (kd != 0) = true := by simp; intro h; exact hk (.inl h)
  have e2 : (kd != 1) = true := by simp; intro h; exact hk (.inr h)
  refine lcall_of_vc tyok Try.func53 rfl (by rfl) Try.results53 Try.ntmps53 ?_; intro C hD
  simp (maxSteps := 2000000) only [↓vP0, vQ0, vT0, simprocAttr, e1, e2]
  exact exit_keep (L1 := []) ⟨rfl, rfl⟩ (by simp [ren, rens, sg, sig, okIn, okIns, exK, leK, leF, leV, matK, objM, renO, roSame, lh, born, AObj.born, AObj.live, injOk, kindOf, rens_ints, okIns_ints, List.range, List.range.loop, mrg, mset]) trivial

abbrev numV (none : Bool) (n : Int) : AV := .agg [.bool none, .int .i64 n]
def numB (none : Bool) (n : Int) : Bool := if none then n == 0 else decide (-1048576 ≤ n) && decide (n ≤ 1048576)
theorem numB_iff (none : Bool) (n : Int) : numB none n = true ↔ NumOk none n := by
  cases none <;> simp [numB, NumOk]
theorem c_pNumValid (none : Bool) (n : Int) : LCall Try.prog 69 [numV none n] [] fun r L => r = .bool (numB none n) ∧ L = [] := by
  refine lcall_of_vc tyok Try.func69 rfl (by rfl) Try.results69 Try.ntmps69 ?_; intro C hD
  cases none with
  | true =>
    simp (maxSteps := 2000000) only [↓vP0, vQ0, vT0, simprocAttr]
    exact exit_keep (L1 := []) ⟨rfl, rfl⟩ trivial trivial
  | false =>
    by_cases h1 : -1048576 ≤ n
    · have e1 : decide (-1048576 ≤ n) = true := decide_eq_true h1
      simp (maxSteps := 2000000) only [↓vP0, vQ0, vT0, simprocAttr, e1]
      exact exit_keep (L1 := []) ⟨by simp [numB, h1], rfl⟩ trivial trivial
    · have e1 : decide (-1048576 ≤ n) = false := decide_eq_false h1
      simp (maxSteps := 2000000) only [↓vP0, vQ0, vT0, simprocAttr, e1]
      exact exit_keep (L1 := []) ⟨by simp [numB, h1], rfl⟩ trivial trivial
theorem c_rNumValid (none : Bool) (n : Int) : LCall Try.prog 14 [numV none n] [] fun r L => r = .bool (numB none n) ∧ L = [] := by
  refine lcall_of_vc tyok Try.func14 rfl (by rfl) Try.results14 Try.ntmps14 ?_; intro C hD
  cases none with
  | true =>
    simp (maxSteps := 2000000) only [↓vP0, vQ0, vT0, simprocAttr]
    exact exit_keep (L1 := []) ⟨rfl, rfl⟩ trivial trivial
  | false =>
    by_cases h1 : -1048576 ≤ n
    · have e1 : decide (-1048576 ≤ n) = true := decide_eq_true h1
      simp (maxSteps := 2000000) only [↓vP0, vQ0, vT0, simprocAttr, e1]
      exact exit_keep (L1 := []) ⟨by simp [numB, h1], rfl⟩ trivial trivial
    · have e1 : decide (-1048576 ≤ n) = false := decide_eq_false h1
      simp (maxSteps := 2000000) only [↓vP0, vQ0, vT0, simprocAttr, e1]
      exact exit_keep (L1 := []) ⟨by simp [numB, h1], rfl⟩ trivial trivial

theorem c_ntake (x : Int) (h0 : 0 ≤ x) (h1 : x ≤ 1000) : LCall Try.prog 118 [.ptr 0 0] [.own [.int .i64 x] 166] fun r L => r = .int .i64 x ∧ L = [.own [.int .i64 (min (x + 1) 47)] 166] := by
  refine lcall_of_vc tyok Try.func118 rfl (by rfl) Try.results118 Try.ntmps118 ?_; intro C hD
  simp (maxSteps := 2000000) only [↓vP0, vQ0, vT0, simprocAttr]
  simp (disch := omega) only [wr64, wru64, wru8, tdv, tmd, fdv]
  exact exit_keep0 ⟨rfl, rfl⟩ trivial ⟨by simp [keepO, okIns, okIn], trivial⟩
theorem c_fits (kd : Int) (st : List Int) (hl : st.length ≤ 8192) (base n : Int) (h0 : 0 ≤ n) (h1 : n ≤ 100000) (hb : -9223372036854775808 ≤ base ∧ base ≤ 9223372036854775807) :
    LCall Try.prog 114 [.agg [.int .i64 kd, .slice 0 0 st.length], .int .i64 base, .int .i64 n] [.ro (ints .i64 st) 3] fun r L =>
      r = .int .i64 (if base < 0 ∨ (st.length : Int) - n < base then 2 else 0) ∧ L = [.ro (ints .i64 st) 3] := by
  refine lcall_of_vc tyok Try.func114 rfl (by rfl) Try.results114 Try.ntmps114 ?_; intro C hD
  by_cases hb0 : base < 0
  · have e1 : decide (base < 0) = true := decide_eq_true hb0
    simp (maxSteps := 2000000) only [↓vP0, vQ0, vT0, simprocAttr, e1]
    exact exit_keep (L1 := [.ro (ints .i64 st) 3]) ⟨by rw [if_pos (.inl hb0)], rfl⟩ trivial ⟨⟨rfl, by rw [okIns_ints]; trivial⟩, trivial⟩
  · have e1 : decide (base < 0) = false := decide_eq_false hb0
    simp (maxSteps := 2000000) only [↓vP0, vQ0, vT0, simprocAttr, e1]
    simp (disch := omega) only [wr64, wru64, wru8, tdv, tmd, fdv]
    (with_reducible first | refine condK_dec (fun h => ?_) (fun h => ?_) | refine condK_beq (fun h => ?_) (fun h => ?_) | refine condK_bne (fun h => ?_) (fun h => ?_) | refine condK_intro (fun h => ?_) (fun h => ?_))
    · simp (maxSteps := 2000000) only [↓vP0, vQ0, vT0, simprocAttr]
      exact exit_keep (L1 := [.ro (ints .i64 st) 3]) ⟨by rw [if_pos (.inr h)], rfl⟩ trivial ⟨⟨rfl, by rw [okIns_ints]; trivial⟩, trivial⟩
    · simp (maxSteps := 2000000) only [↓vP0, vQ0, vT0, simprocAttr]
      exact exit_keep (L1 := [.ro (ints .i64 st) 3]) ⟨by rw [if_neg (by omega)], rfl⟩ trivial ⟨⟨rfl, by rw [okIns_ints]; trivial⟩, trivial⟩
end Go.Proofs.Ytbfefpkhalegmaa

set_option linter.unusedVariables false
set_option linter.unusedSimpArgs false
namespace Go.Proofs.Ytbfefpkhalegmaa
open Go
set_option maxHeartbeats 4000000
set_option maxRecDepth 20000

def flat : List (Nat × Int) → List Int
  | [] => []
  | (c, b) :: l => (c : Int) :: b :: flat l
def evF (l : List (Nat × Int)) : List AV := ints .i64 (flat l)
theorem flat_len : ∀ l, (flat l).length = l.length * 2
  | [] => rfl
  | (c, b) :: l => by simp [flat, flat_len l]; omega
theorem flat_app : ∀ l m, flat (l ++ m) = flat l ++ flat m
  | [], m => rfl
  | (c, b) :: l, m => by simp [flat, flat_app l m]
theorem evF_len (l : List (Nat × Int)) : (evF l).length = l.length * 2 := by simp [evF, ints_length, flat_len]
theorem evF_cell1 (l : List (Nat × Int)) : (evF l).all AV.cell1 = true := ints_cell1 _ _
theorem evF_rens (σ : Nat → Nat) (l : List (Nat × Int)) : rens σ (evF l) = evF l := rens_ints _ _ _
theorem evF_okIns (B : Nat → Prop) (l : List (Nat × Int)) : okIns B (evF l) = True := okIns_ints _ _ _
theorem evF_snoc (l : List (Nat × Int)) (c : Nat) (a b : Int) (h : a = c) : evF l ++ [.int .i64 a, .int .i64 b] = evF (l ++ [(c, b)]) := by
  subst h; simp [evF, flat_app, flat, ints]
theorem evF_cons (c : Nat) (a b : Int) (h : a = c) : [AV.int .i64 a, .int .i64 b] = evF [(c, b)] := by subst h; rfl
theorem flat_drop : ∀ (l : List (Nat × Int)) (i : Nat), (flat l).drop (i * 2) = flat (l.drop i)
  | l, 0 => by simp
  | [], i + 1 => by simp [flat]
  | (c, b) :: l, i + 1 => by
    rw [show (i + 1) * 2 = i * 2 + 2 by omega]
    simp [flat, flat_drop l i]
theorem evF_get (l : List (Nat × Int)) (i : Nat) (h : i < l.length) : ((evF l).drop (i * 2)).take 2 = [.int .i64 ((l.getD i (0, 0)).1 : Nat), .int .i64 (l.getD i (0, 0)).2] := by
  rw [evF, ints_drop, flat_drop, ints_take, List.drop_eq_getElem_cons h]
  have : l.getD i (0, 0) = l[i] := by simp [List.getD_eq_getElem?_getD, List.getElem?_eq_getElem h]
  rw [this]
  obtain ⟨c, b⟩ := l[i]
  simp [flat, ints]
theorem mv_app (b : Nat) (l m : List (Nat × Int)) : mv b (l ++ m) = mv b l ++ mv b m := by simp [mv]
theorem mv_len (b : Nat) (l : List (Nat × Int)) : (mv b l).length = l.length := by simp [mv]
theorem mv_one (b c : Nat) (x : Int) : mv b [(c, x)] = [(b + c, x)] := rfl
theorem derr (d : Dec) (c : Nat) : (d.err c = 0 ∧ KdOk (d.got c)) ∨ (d.err c = 6 ∧ d.got c = 0) := by
  unfold Dec.err Dec.got
  split
  · exact .inr ⟨rfl, rfl⟩
  · exact .inl ⟨rfl, dbit_ok d c⟩
/-- A decoder that reads on in the same code. -/
def Of (d D : Dec) : Prop := D.Ok ∧ D.kd = d.kd ∧ D.st.length = d.st.length ∧ D.code = d.code
theorem Of.after {d D : Dec} (h : Of d D) {c : Nat} (hc : c < d.st.length) : Of d (D.after c) := by
  obtain ⟨a, b, c', e⟩ := h
  obtain ⟨a1, a2, a3, a4⟩ := dafter_ok a (c := c) (by omega)
  exact ⟨a1, a2.trans b, a3.trans c', a4.trans e⟩
theorem mv_zero (l : List (Nat × Int)) : mv 0 l = l := by simp [mv]
theorem encNew_ok {kd : Int} {st : List Int} (h : StsOk kd st) : (encNew kd st).Ok := ⟨h, ⟨by simp [encNew], by simp [encNew], by simp [encNew]⟩, by simp [encNew]⟩
theorem decNew_ok {kd : Int} {st code : List Int} (h : StsOk kd st) (hb : ByOk code) : (decNew kd st code).Ok := ⟨h, ⟨by simp [decNew], by simp [decNew], by simp [decNew]⟩, by simp [decNew], hb, by simp [decNew]⟩
theorem take_eq_of {α : Type} {l m : List α} {d : α} {i : Nat} (h : l.take i = m.take i) (hl : i < l.length) (hm : i < m.length) (he : l.getD i d = m.getD i d) : l.take (i + 1) = m.take (i + 1) := by
  rw [List.take_succ_eq_append_getElem hl, List.take_succ_eq_append_getElem hm, h]
  have e1 : l.getD i d = l[i] := by simp [List.getD_eq_getElem?_getD, List.getElem?_eq_getElem hl]
  have e2 : m.getD i d = m[i] := by simp [List.getD_eq_getElem?_getD, List.getElem?_eq_getElem hm]
  rw [← e1, ← e2, he]
end Go.Proofs.Ytbfefpkhalegmaa

set_option linter.unusedVariables false
set_option linter.unusedSimpArgs false
namespace Go.Proofs.Ytbfefpkhalegmaa
open Go

set_option maxHeartbeats 4000000 in
set_option maxRecDepth 100000 in
/-- bits.Len64: "Len64 returns the minimum number of bits required to represent x; the result is 0 for x == 0.": IT RETURNS 'Lib.bitLen x'; the world is as it was. ('h0', 'h1': x is a uint64.) -/
theorem bits_Len64 (x : Int) (w : World) (h0 : 0 ≤ x) (h1 : x ≤ 18446744073709551615) :
    Calls Try.prog 130 #[.int .u64 x] w fun e w' => e = .returned (.int .i64 (Lib.bitLen x.toNat)) ∧ w' = w := by
  go_enter Try.func130, Try.ntmps130
  go_wp2
  all_goals (go_ret; refine ⟨congrArg Ending.returned (congrArg (Value.int IntKind.i64) ?_), rfl⟩)
  all_goals first
    | (rw [Lib.len8_of (x / 4294967296 / 65536 / 256 % 256) (by omega) (by omega)]
       have e : (x / 4294967296 / 65536 / 256 % 256).toNat = x.toNat / 72057594037927936 := by omega
       have l := Lib.bitLen_le8' (x / 4294967296 / 65536 / 256 % 256) (by omega) (by omega)
       have s := Lib.bitLen_shift56 x.toNat (by omega) (by omega)
       rw [e] at l ⊢
       omega)
    | (rw [Lib.len8_of (x / 4294967296 / 65536 % 256) (by omega) (by omega)]
       have e : (x / 4294967296 / 65536 % 256).toNat = x.toNat / 281474976710656 := by omega
       have l := Lib.bitLen_le8' (x / 4294967296 / 65536 % 256) (by omega) (by omega)
       have s := Lib.bitLen_shift48 x.toNat (by omega) (by omega)
       rw [e] at l ⊢
       omega)
    | (rw [Lib.len8_of (x / 4294967296 / 256 % 256) (by omega) (by omega)]
       have e : (x / 4294967296 / 256 % 256).toNat = x.toNat / 1099511627776 := by omega
       have l := Lib.bitLen_le8' (x / 4294967296 / 256 % 256) (by omega) (by omega)
       have s := Lib.bitLen_shift40 x.toNat (by omega) (by omega)
       rw [e] at l ⊢
       omega)
    | (rw [Lib.len8_of (x / 4294967296 % 256) (by omega) (by omega)]
       have e : (x / 4294967296 % 256).toNat = x.toNat / 4294967296 := by omega
       have l := Lib.bitLen_le8' (x / 4294967296 % 256) (by omega) (by omega)
       have s := Lib.bitLen_shift32 x.toNat (by omega) (by omega)
       rw [e] at l ⊢
       omega)
    | (rw [Lib.len8_of (x / 65536 / 256 % 256) (by omega) (by omega)]
       have e : (x / 65536 / 256 % 256).toNat = x.toNat / 16777216 := by omega
       have l := Lib.bitLen_le8' (x / 65536 / 256 % 256) (by omega) (by omega)
       have s := Lib.bitLen_shift24 x.toNat (by omega) (by omega)
       rw [e] at l ⊢
       omega)
    | (rw [Lib.len8_of (x / 65536 % 256) (by omega) (by omega)]
       have e : (x / 65536 % 256).toNat = x.toNat / 65536 := by omega
       have l := Lib.bitLen_le8' (x / 65536 % 256) (by omega) (by omega)
       have s := Lib.bitLen_shift16 x.toNat (by omega) (by omega)
       rw [e] at l ⊢
       omega)
    | (rw [Lib.len8_of (x / 256 % 256) (by omega) (by omega)]
       have e : (x / 256 % 256).toNat = x.toNat / 256 := by omega
       have l := Lib.bitLen_le8' (x / 256 % 256) (by omega) (by omega)
       have s := Lib.bitLen_shift8 x.toNat (by omega) (by omega)
       rw [e] at l ⊢
       omega)
    | (rw [Lib.len8_of (x % 256) (by omega) (by omega)]
       have e : (x % 256).toNat = x.toNat := by omega
       have l := Lib.bitLen_le8' (x % 256) (by omega) (by omega)
       rw [e] at l ⊢
       omega)

/-- bits.Len: "Len returns the minimum number of bits required to represent x; the result is 0 for x == 0.": IT RETURNS 'Lib.bitLen x'; the world is as it was. (A uint has 64 bits in the model.) ITS CALLEE bits.Len64 IS MET BY ITS OWN CONTRACT OFF THE SHELF (lay that first). -/
theorem bits_Len (x : Int) (w : World) (h0 : 0 ≤ x) (h1 : x ≤ 18446744073709551615) :
    Calls Try.prog 117 #[.int .u64 x] w fun e w' => e = .returned (.int .i64 (Lib.bitLen x.toNat)) ∧ w' = w := by
  go_enter Try.func117, Try.ntmps117
  go_wp2_with (go_at_call 130; refine (bits_Len64 x _ h0 h1).mono ?_; rintro e w' ⟨rfl, rfl⟩)
  go_ret
  exact ⟨rfl, rfl⟩


/-- A contract in the model's own words, of plain arguments. -/
theorem lcall_of_calls {P : Program} {f : FuncId} {args : List AV} {vs : List Value} {v : AV} {V : Value} (hc : Callable P f) (hargs : ∀ (ρ : Nat → Pl) (Vs : List Value), VsRel (born (lh [])) ρ args Vs → Vs = vs)
    (hv : ∀ ρ : Nat → Pl, VRel (born (lh [])) ρ v V) (h : ∀ w, Calls P f vs.toArray w fun e w' => e = .returned V ∧ w' = w) : LCall P f args [] fun r L => r = v ∧ L = [] := by
  refine ⟨hc, ?_⟩
  intro ρ w vargs hsim hrel
  rw [hargs ρ vargs hrel]
  refine Calls.mono (h w) ?_
  rintro e w' ⟨rfl, rfl⟩
  exact ⟨ρ, v, lh [], V, rfl, ⟨[], rfl, by simp, fun i cs e h => h, rfl, rfl⟩, hsim, hv ρ, Kept.refl _ _, fun i hi => ⟨rfl, hi⟩, fun i hi => .inl ⟨i, hi, rfl⟩⟩
theorem c_Len (x : Int) (h0 : 0 ≤ x) (h1 : x ≤ 18446744073709551615) : LCall Try.prog 117 [.int .u64 x] [] fun r L => r = .int .i64 (Lib.bitLen x.toNat) ∧ L = [] := by
  refine lcall_of_calls (vs := [.int .u64 x]) (V := .int .i64 (Lib.bitLen x.toNat)) ⟨_, Try.func117, rfl, rfl⟩ ?_ (fun ρ => .int _ _) (fun w => bits_Len x w h0 h1)
  intro ρ Vs h
  cases h with
  | cons _ _ _ _ h hs =>
    cases hs
    cases h
    rfl
end Go.Proofs.Ytbfefpkhalegmaa

set_option linter.unusedVariables false
set_option linter.unusedSimpArgs false
namespace Go.Proofs.Ytbfefpkhalegmaa
open Go
set_option maxHeartbeats 4000000
set_option maxRecDepth 20000

theorem bitLen_log : ∀ (n v : Nat), v ≤ n → v ≠ 0 → v < 2 ^ 64 → Lib.bitLen v = v.log2 + 1
  | 0, v, h, h0, _ => by omega
  | n + 1, v, h, h0, hv => by
    rw [Lib.bitLen_half v h0 hv]
    by_cases h1 : v = 1
    · subst h1; decide
    · rw [bitLen_log n (v / 2) (by omega) (by omega) (by omega)]
      have : v.log2 = (v / 2).log2 + 1 := by rw [Nat.log2_def v, if_pos (by omega)]
      omega
theorem and_1 (a : Int) (h0 : 0 ≤ a) (h1 : a < 18446744073709551616) : andI 64 a 1 = a % 2 := by
  unfold andI
  obtain ⟨n, rfl⟩ := Int.eq_ofNat_of_zero_le h0
  rw [BitVec.toNat_and, BitVec.toNat_ofInt, BitVec.toNat_ofInt]
  have e1 : ((n : Int) % (2 ^ 64 : Nat)).toNat = n := by
    have : ((2 ^ 64 : Nat) : Int) = 18446744073709551616 := by decide
    rw [this]; omega
  have e2 : ((1 : Int) % (2 ^ 64 : Nat)).toNat = 2 ^ 1 - 1 := by decide
  rw [e1, e2, Nat.and_two_pow_sub_one_eq_mod]
  omega

def evH (i : Nat) : List (Nat × Int) := (0, 0) :: (List.range' 0 i).map fun i => (1 + i, (1 : Int))
theorem evH_succ (i : Nat) : evH (i + 1) = evH i ++ [(1 + i, 1)] := by
  simp [evH, List.range'_1_concat]
theorem evH_len (i : Nat) : (evH i).length = i + 1 := by simp [evH]
def evT (l : List (Nat × Int)) (v c j : Nat) : List (Nat × Int) := l ++ (List.range' 0 j).map fun i => (dctx c i, dig v (c - 1 - i))
theorem evT_succ (l : List (Nat × Int)) (v c j : Nat) : evT l v c (j + 1) = evT l v c j ++ [(dctx c j, dig v (c - 1 - j))] := by
  simp [evT, List.range'_1_concat]
theorem evT_len (l : List (Nat × Int)) (v c j : Nat) : (evT l v c j).length = l.length + j := by simp [evT]
def evM (c : Nat) : List (Nat × Int) := evH c ++ if c < 20 then [(1 + c, 0)] else []
theorem numEv_eq (n : Int) : numEv false n = evT (evM (n.natAbs + 1).log2) (n.natAbs + 1) (n.natAbs + 1).log2 (n.natAbs + 1).log2 ++ if n = 0 then [] else [(22, if n < 0 then 1 else 0)] := by
  simp [numEv, evT, evM, evH, numHead, numTail]
theorem log_bd {n : Int} (hn : NumOk false n) : (n.natAbs + 1).log2 ≤ 20 := by
  simp only [NumOk, Bool.false_eq_true, if_false] at hn
  have : n.natAbs + 1 < 2 ^ 21 := by omega
  have := (Nat.log2_lt (by omega)).2 this
  omega

theorem dig_at (v i : Nat) (hv : v < 18446744073709551616) (hi : i ≤ 20) : IntKind.i64.wrap (andI 64 ((v : Int).fdiv (2 ^ if (i : Int).toNat ≤ 64 then (i : Int).toNat else 64)) 1) = dig v i := by
  have e : (if (i : Int).toNat ≤ 64 then (i : Int).toNat else 64) = i := by rw [if_pos (by omega)]; omega
  rw [e]
  have e2 : (v : Int).fdiv (2 ^ i) = ((v / 2 ^ i : Nat) : Int) := by
    rw [Int.fdiv_eq_ediv_of_nonneg _ (by exact Int.le_of_lt (Int.pow_pos (by decide)))]
    simp
  rw [e2]
  have : v / 2 ^ i ≤ v := Nat.div_le_self _ _
  unfold dig
  generalize v / 2 ^ i = q at this ⊢
  rw [and_1 _ (by omega) (by omega)]
  rw [wr64 _ (by omega) (by omega)]
  omega

theorem c_pEvents (base : Nat) (hb : base ≤ 100000) (none : Bool) (n : Int) (hn : NumOk none n) : LCall Try.prog 71 [.int .i64 base, numV none n] [] fun r L =>
    r = .slice 0 0 (numEv none n).length ∧ L = [.own (evF (mv base (numEv none n))) 100] := by
  refine lcall_of_vc tyok Try.func71 rfl (by rfl) Try.results71 Try.ntmps71 ?_; intro C hD
  cases none with
  | true =>
    simp (maxSteps := 2000000) only [↓vP0, vQ0, vT0, simprocAttr]
    refine exit_of [1] (.slice 0 0 1) [.own (evF (mv base (numEv true n))) 100] ⟨rfl, rfl⟩ ?_ ?_ rfl ?_ ?_
    all_goals simp [ren, rens, sg, sig, okIn, okIns, exK, leK, leF, leV, matK, objM, renO, roSame, lh, born, AObj.born, AObj.live, injOk, kindOf, rens_ints, okIns_ints, List.range, List.range.loop, mrg, mset, numEv, mv, evF, flat, ints]
  | false =>
    have hn' : -1048576 ≤ n ∧ n ≤ 1048576 := by simpa [NumOk] using hn
    have hc := log_bd hn
    have hm : IntKind.i64.wrap (max n (IntKind.i64.wrap (0 - n)) + 1) = ((n.natAbs + 1 : Nat) : Int) := by
      rw [wr64 (0 - n) (by omega) (by omega), wr64 _ (by omega) (by omega)]; omega
    have hne := numEv_eq n
    generalize hv : n.natAbs + 1 = v at hc hm hne
    have hL : Lib.bitLen v = v.log2 + 1 := bitLen_log v v (Nat.le_refl _) (by omega) (by omega)
    generalize hcc : v.log2 = c at hc hL hne
    simp (maxSteps := 2000000) only [↓vP0, vQ0, vT0, simprocAttr]
    rw [hm]
    rw [wru64 _ (by omega) (by omega)]
    refine callK_pure (c_Len v (by omega) (by omega)) rfl rfl ?_
    have hw1 : IntKind.i64.wrap (((Lib.bitLen v : Nat) : Int) - 1) = c := by rw [hL, wr64 _ (by omega) (by omega)]; omega
    simp (maxSteps := 2000000) only [↓vP0, vQ0, vT0, simprocAttr, hw1]
    have hB : okIns (born (lh [AObj.own [AV.bool false, AV.int .i64 n] 28])) [AV.bool false, AV.int .i64 n] := ⟨trivial, trivial, trivial⟩
    refine loopK_ren tyok hD (α := Nat) (fun i => i ≤ c) (fun i => c - i) (fun i => [.int .i64 base, .junk, .junk, .ptr 0 0, .junk, .slice 1 0 (i + 1), .int .i64 v, .int .i64 c, .junk, .junk, .junk, .junk, .junk, .junk, .junk, .junk, .junk, .junk, .junk, .junk, .junk, .junk, .junk, .junk, .junk, .junk, .junk, .junk, .junk, .junk, .junk, .junk, .int .i64 c, .int .i64 i, .junk, .junk, .junk, .junk, .junk, .junk, .junk, .junk, .junk, .junk, .junk, .junk, .junk, .junk, .junk, .junk, .junk, .junk, .junk, .junk, .junk, .junk, .junk, .junk, .junk, .junk, .junk, .junk, .junk, .junk, .junk, .junk, .junk, .junk, .junk, .junk, .junk, .junk, .junk, .junk, .junk, .junk, .junk, .junk, .junk, .junk, .junk, .junk, .junk, .junk, .junk, .junk, .junk, .junk, .junk, .junk, .junk, .junk, .junk, .junk, .junk])
      (fun i => [.own [.bool false, .int .i64 n] 28, .own (evF (mv base (evH i))) 100]) 0 (by omega) ⟨[0, 1], ?_⟩ ?_
    · simp only [leR, evH, mv, evF, flat, ints, List.range'_zero, List.map_nil, List.map_cons]
      simp [ren, rens, sg, sig, okIn, okIns, exK, leK, leF, leV, matK, objM, renO, roSame, lh, born, AObj.born, AObj.live, injOk, kindOf, rens_ints, okIns_ints, List.range, List.range.loop, mrg, mset, leF, leV, leK]
    intro i hi
    have hlen : (evF (mv base (evH i))).length = (i + 1) * 2 := by rw [evF_len, mv_len, evH_len]
    simp (maxSteps := 2000000) only [↓vP0, vQ0, vT0, simprocAttr]
    (with_reducible first | refine condK_dec (fun h => ?_) (fun h => ?_) | refine condK_beq (fun h => ?_) (fun h => ?_) | refine condK_bne (fun h => ?_) (fun h => ?_) | refine condK_intro (fun h => ?_) (fun h => ?_))
    · have hi' : i < c := by omega
      simp (maxSteps := 2000000) only [↓vP0, vQ0, vT0, simprocAttr]
      refine chk_intro (by rw [hlen]; omega) ?_
      simp (maxSteps := 2000000) only [↓vP0, vQ0, vT0, simprocAttr]
      simp (disch := omega) only [wr64, wru64, wru8, tdv, tmd, fdv]
      rw [evF_snoc _ (base + (1 + i)) _ _ (by omega)]
      refine ⟨i + 1, by omega, by omega, [0, 3], ?_⟩
      have : mv base (evH i) ++ [(base + (1 + i), 1)] = mv base (evH (i + 1)) := by rw [evH_succ, mv_app, mv_one]
      rw [this]
      simp only [leR, Int.natCast_add, Int.cast_ofNat_Int]
      simp [ren, rens, sg, sig, okIn, okIns, exK, leK, leF, leV, matK, objM, renO, roSame, lh, born, AObj.born, AObj.live, injOk, kindOf, rens_ints, okIns_ints, List.range, List.range.loop, mrg, mset, leF, leV, leK, evF_rens, evF_okIns]
    · have : i = c := by omega
      subst this
      clear h
      simp (maxSteps := 2000000) only [↓vP0, vQ0, vT0, simprocAttr]
      have hml : (evM i).length ≤ i + 2 := by simp only [evM, List.length_append, evH_len]; split <;> simp <;> omega
      (with_reducible first | refine condK_dec (fun h => ?_) (fun h => ?_) | refine condK_beq (fun h => ?_) (fun h => ?_) | refine condK_bne (fun h => ?_) (fun h => ?_) | refine condK_intro (fun h => ?_) (fun h => ?_))
      · simp (maxSteps := 2000000) only [↓vP0, vQ0, vT0, simprocAttr]
        refine chk_intro (by rw [hlen]; omega) ?_
        simp (maxSteps := 2000000) only [↓vP0, vQ0, vT0, simprocAttr]
        simp (disch := omega) only [wr64, wru64, wru8, tdv, tmd, fdv]
        rw [evF_snoc _ (base + (1 + i)) _ _ (by omega)]
        have hx : mv base (evH i) ++ [(base + (1 + i), 0)] = mv base (evM i) := by rw [evM, if_pos (by omega), mv_app, mv_one]
        have hy : i + 1 + 1 = (evM i).length := by simp only [evM, List.length_append, evH_len]; rw [if_pos (by omega)]; rfl
        rw [hx, hy]
        refine loopK_ren tyok hD (α := Nat) (fun j => j ≤ i) (fun j => i - j) (fun j => [.int .i64 base, .junk, .junk, .ptr 0 0, .junk, .slice 1 0 ((evM i).length + j), .int .i64 v, .int .i64 i, .junk, .ptr 2 0, .int .i64 ((i : Int) - 1 - j), .junk, .junk, .junk, .junk, .junk, .junk, .junk, .junk, .junk, .junk, .junk, .junk, .junk, .junk, .junk, .junk, .junk, .junk, .junk, .junk, .junk, .junk, .junk, .junk, .junk, .junk, .junk, .junk, .junk, .junk, .junk, .junk, .junk, .junk, .junk, .junk, .junk, .junk, .junk, .junk, .junk, .junk, .junk, .junk, .junk, .junk, .junk, .junk, .junk, .junk, .junk, .junk, .junk, .junk, .junk, .junk, .junk, .junk, .junk, .junk, .junk, .junk, .junk, .junk, .junk, .junk, .junk, .junk, .junk, .junk, .junk, .junk, .junk, .junk, .junk, .junk, .junk, .junk, .junk, .junk, .junk, .junk, .junk, .junk])
          (fun j => [.own [.bool false, .int .i64 n] 28, .own (evF (mv base (evT (evM i) v i j))) 100, .own [.int .i64 (min (max 44 (43 + j)) 47)] 166]) 0 (by omega) ⟨[0, 3, 4], ?_⟩ ?_
        · simp only [leR, evT, List.range'_zero, List.map_nil, List.append_nil]
          simp [ren, rens, sg, sig, okIn, okIns, exK, leK, leF, leV, matK, objM, renO, roSame, lh, born, AObj.born, AObj.live, injOk, kindOf, rens_ints, okIns_ints, List.range, List.range.loop, mrg, mset, leF, leV, leK, evF_rens, evF_okIns]
          all_goals omega
        intro j hj
        have hlen2 : (evF (mv base (evT (evM i) v i j))).length = ((evM i).length + j) * 2 := by rw [evF_len, mv_len, evT_len]
        simp (maxSteps := 2000000) only [↓vP0, vQ0, vT0, simprocAttr]
        (with_reducible first | refine condK_dec (fun h => ?_) (fun h => ?_) | refine condK_beq (fun h => ?_) (fun h => ?_) | refine condK_bne (fun h => ?_) (fun h => ?_) | refine condK_intro (fun h => ?_) (fun h => ?_))
        · have hj' : j < i := by omega
          have hdj := dig_at v (i - 1 - j) (by omega) (by omega)
          have hcast : ((i - 1 - j : Nat) : Int) = (i : Int) - 1 - j := by omega
          rw [hcast] at hdj
          simp (maxSteps := 2000000) only [↓vP0, vQ0, vT0, simprocAttr]
          simp (disch := omega) only [wr64, wru64, wru8, tdv, tmd, fdv]
          (with_reducible first | refine condK_dec (fun h => ?_) (fun h => ?_) | refine condK_beq (fun h => ?_) (fun h => ?_) | refine condK_bne (fun h => ?_) (fun h => ?_) | refine condK_intro (fun h => ?_) (fun h => ?_))
          · simp (maxSteps := 2000000) only [↓vP0, vQ0, vT0, simprocAttr]
            refine callK_det (c_ntake (min (max 44 (43 + (j : Int))) 47) (by omega) (by omega)) [2] ?_ ?_ ?_ rfl (by simp) ?_
            · simp [ren, rens, sg, sig, okIn, okIns, exK, leK, leF, leV, matK, objM, renO, roSame, lh, born, AObj.born, AObj.live, injOk, kindOf, rens_ints, okIns_ints, List.range, List.range.loop, mrg, mset]
            · simp [ren, rens, sg, sig, okIn, okIns, exK, leK, leF, leV, matK, objM, renO, roSame, lh, born, AObj.born, AObj.live, injOk, kindOf, rens_ints, okIns_ints, List.range, List.range.loop, mrg, mset]
            · simp [ren, rens, sg, sig, okIn, okIns, exK, leK, leF, leV, matK, objM, renO, roSame, lh, born, AObj.born, AObj.live, injOk, kindOf, rens_ints, okIns_ints, List.range, List.range.loop, mrg, mset]
            simp (maxSteps := 2000000) only [↓vP0, vQ0, vT0, simprocAttr]
            refine chk_intro (by omega) ?_
            simp (maxSteps := 2000000) only [↓vP0, vQ0, vT0, simprocAttr]
            refine chk_intro (by rw [hlen2]; omega) ?_
            simp (maxSteps := 2000000) only [↓vP0, vQ0, vT0, simprocAttr, hdj]
            simp (disch := omega) only [wr64, wru64, wru8, tdv, tmd, fdv]
            have hd0 : dctx i j = min (43 + j) 47 := by unfold dctx; rw [if_neg (by omega)]
            rw [evF_snoc _ (base + dctx i j) _ _ (by rw [hd0]; omega)]
            have hz : mv base (evT (evM i) v i j) ++ [(base + dctx i j, dig v (i - 1 - j))] = mv base (evT (evM i) v i (j + 1)) := by rw [evT_succ, mv_app, mv_one]
            have ht : min (min (max 44 (43 + (j : Int))) 47 + 1) 47 = min (max 44 (43 + ((j + 1 : Nat) : Int))) 47 := by omega
            have hs : (i : Int) - 1 - (j : Int) - 1 = (i : Int) - 1 - ((j + 1 : Nat) : Int) := by omega
            rw [hz, ht, hs]
            refine ⟨j + 1, by omega, by omega, [0, 4, 2], ?_⟩
            simp only [leR]
            simp [ren, rens, sg, sig, okIn, okIns, exK, leK, leF, leV, matK, objM, renO, roSame, lh, born, AObj.born, AObj.live, injOk, kindOf, rens_ints, okIns_ints, List.range, List.range.loop, mrg, mset, leF, leV, leK, evF_rens, evF_okIns, Nat.add_assoc]
          · have hj0 : j = 0 := by omega
            subst hj0
            simp only [Int.natCast_zero] at hdj
            simp (maxSteps := 2000000) only [↓vP0, vQ0, vT0, simprocAttr]
            refine chk_intro (by omega) ?_
            simp (maxSteps := 2000000) only [↓vP0, vQ0, vT0, simprocAttr]
            refine chk_intro (by rw [hlen2]; omega) ?_
            simp (maxSteps := 2000000) only [↓vP0, vQ0, vT0, simprocAttr, hdj]
            simp (disch := omega) only [wr64, wru64, wru8, tdv, tmd, fdv]
            have hd0 : dctx i 0 = 23 + i := rfl
            rw [evF_snoc _ (base + dctx i 0) _ _ (by rw [hd0]; omega)]
            have hz : mv base (evT (evM i) v i 0) ++ [(base + dctx i 0, dig v (i - 1 - 0))] = mv base (evT (evM i) v i 1) := by rw [evT_succ _ _ _ 0, mv_app, mv_one]
            rw [hz]
            refine ⟨1, by omega, by omega, [0, 4, 2], ?_⟩
            simp only [leR]
            simp [ren, rens, sg, sig, okIn, okIns, exK, leK, leF, leV, matK, objM, renO, roSame, lh, born, AObj.born, AObj.live, injOk, kindOf, rens_ints, okIns_ints, List.range, List.range.loop, mrg, mset, leF, leV, leK, evF_rens, evF_okIns, Nat.add_assoc]
            all_goals omega
        · have hj' : j = i := by omega
          subst hj'
          simp (maxSteps := 2000000) only [↓vP0, vQ0, vT0, simprocAttr]
          (with_reducible first | refine condK_dec (fun h => ?_) (fun h => ?_) | refine condK_beq (fun h => ?_) (fun h => ?_) | refine condK_bne (fun h => ?_) (fun h => ?_) | refine condK_intro (fun h => ?_) (fun h => ?_))
          · have hnz := h
            rw [if_neg hnz] at hne
            simp (maxSteps := 2000000) only [↓vP0, vQ0, vT0, simprocAttr]
            (with_reducible first | refine condK_dec (fun h => ?_) (fun h => ?_) | refine condK_beq (fun h => ?_) (fun h => ?_) | refine condK_bne (fun h => ?_) (fun h => ?_) | refine condK_intro (fun h => ?_) (fun h => ?_))
            · rw [if_pos h] at hne
              simp (maxSteps := 2000000) only [↓vP0, vQ0, vT0, simprocAttr]
              refine chk_intro (by rw [hlen2]; omega) ?_
              simp (maxSteps := 2000000) only [↓vP0, vQ0, vT0, simprocAttr]
              simp (disch := omega) only [wr64, wru64, wru8, tdv, tmd, fdv]
              rw [evF_snoc _ (base + 22) _ _ (by omega)]
              have hz : mv base (evT (evM j) v j j) ++ [(base + 22, 1)] = mv base (numEv false n) := by rw [hne, mv_app, mv_one]
              rw [hz]
              refine exit_of [5] (.slice 0 0 (numEv false n).length) [.own (evF (mv base (numEv false n))) 100] ⟨rfl, rfl⟩ ?_ ?_ rfl ?_ ?_
              all_goals simp [ren, rens, sg, sig, okIn, okIns, exK, leK, leF, leV, matK, objM, renO, roSame, lh, born, AObj.born, AObj.live, injOk, kindOf, rens_ints, okIns_ints, List.range, List.range.loop, mrg, mset, hne, evT_len, evF_rens, evF_okIns]
            · rw [if_neg h] at hne
              simp (maxSteps := 2000000) only [↓vP0, vQ0, vT0, simprocAttr]
              refine chk_intro (by rw [hlen2]; omega) ?_
              simp (maxSteps := 2000000) only [↓vP0, vQ0, vT0, simprocAttr]
              simp (disch := omega) only [wr64, wru64, wru8, tdv, tmd, fdv]
              rw [evF_snoc _ (base + 22) _ _ (by omega)]
              have hz : mv base (evT (evM j) v j j) ++ [(base + 22, 0)] = mv base (numEv false n) := by rw [hne, mv_app, mv_one]
              rw [hz]
              refine exit_of [5] (.slice 0 0 (numEv false n).length) [.own (evF (mv base (numEv false n))) 100] ⟨rfl, rfl⟩ ?_ ?_ rfl ?_ ?_
              all_goals simp [ren, rens, sg, sig, okIn, okIns, exK, leK, leF, leV, matK, objM, renO, roSame, lh, born, AObj.born, AObj.live, injOk, kindOf, rens_ints, okIns_ints, List.range, List.range.loop, mrg, mset, hne, evT_len, evF_rens, evF_okIns]
          · have hn0 : n = 0 := by omega
            subst hn0
            rw [if_pos rfl, List.append_nil] at hne
            simp (maxSteps := 2000000) only [↓vP0, vQ0, vT0, simprocAttr]
            refine exit_of [1] (.slice 0 0 (numEv false 0).length) [.own (evF (mv base (numEv false 0))) 100] ⟨rfl, rfl⟩ ?_ ?_ rfl ?_ ?_
            all_goals simp [ren, rens, sg, sig, okIn, okIns, exK, leK, leF, leV, matK, objM, renO, roSame, lh, born, AObj.born, AObj.live, injOk, kindOf, rens_ints, okIns_ints, List.range, List.range.loop, mrg, mset, hne, evT_len, evF_rens, evF_okIns]
      · simp (maxSteps := 2000000) only [↓vP0, vQ0, vT0, simprocAttr]
        simp (disch := omega) only [wr64, wru64, wru8, tdv, tmd, fdv]
        have hx : mv base (evH i) = mv base (evM i) := by rw [evM, if_neg (by omega), List.append_nil]
        have hy : i + 1 = (evM i).length := by simp only [evM, List.length_append, evH_len]; rw [if_neg (by omega)]; rfl
        rw [hx, hy]
        refine loopK_ren tyok hD (α := Nat) (fun j => j ≤ i) (fun j => i - j) (fun j => [.int .i64 base, .junk, .junk, .ptr 0 0, .junk, .slice 1 0 ((evM i).length + j), .int .i64 v, .int .i64 i, .junk, .ptr 2 0, .int .i64 ((i : Int) - 1 - j), .junk, .junk, .junk, .junk, .junk, .junk, .junk, .junk, .junk, .junk, .junk, .junk, .junk, .junk, .junk, .junk, .junk, .junk, .junk, .junk, .junk, .junk, .junk, .junk, .junk, .junk, .junk, .junk, .junk, .junk, .junk, .junk, .junk, .junk, .junk, .junk, .junk, .junk, .junk, .junk, .junk, .junk, .junk, .junk, .junk, .junk, .junk, .junk, .junk, .junk, .junk, .junk, .junk, .junk, .junk, .junk, .junk, .junk, .junk, .junk, .junk, .junk, .junk, .junk, .junk, .junk, .junk, .junk, .junk, .junk, .junk, .junk, .junk, .junk, .junk, .junk, .junk, .junk, .junk, .junk, .junk, .junk, .junk, .junk])
          (fun j => [.own [.bool false, .int .i64 n] 28, .own (evF (mv base (evT (evM i) v i j))) 100, .own [.int .i64 (min (max 44 (43 + j)) 47)] 166]) 0 (by omega) ⟨[0, 1, 2], ?_⟩ ?_
        · simp only [leR, evT, List.range'_zero, List.map_nil, List.append_nil]
          simp [ren, rens, sg, sig, okIn, okIns, exK, leK, leF, leV, matK, objM, renO, roSame, lh, born, AObj.born, AObj.live, injOk, kindOf, rens_ints, okIns_ints, List.range, List.range.loop, mrg, mset, leF, leV, leK, evF_rens, evF_okIns]
          all_goals omega
        intro j hj
        have hlen2 : (evF (mv base (evT (evM i) v i j))).length = ((evM i).length + j) * 2 := by rw [evF_len, mv_len, evT_len]
        simp (maxSteps := 2000000) only [↓vP0, vQ0, vT0, simprocAttr]
        (with_reducible first | refine condK_dec (fun h => ?_) (fun h => ?_) | refine condK_beq (fun h => ?_) (fun h => ?_) | refine condK_bne (fun h => ?_) (fun h => ?_) | refine condK_intro (fun h => ?_) (fun h => ?_))
        · have hj' : j < i := by omega
          have hdj := dig_at v (i - 1 - j) (by omega) (by omega)
          have hcast : ((i - 1 - j : Nat) : Int) = (i : Int) - 1 - j := by omega
          rw [hcast] at hdj
          simp (maxSteps := 2000000) only [↓vP0, vQ0, vT0, simprocAttr]
          simp (disch := omega) only [wr64, wru64, wru8, tdv, tmd, fdv]
          (with_reducible first | refine condK_dec (fun h => ?_) (fun h => ?_) | refine condK_beq (fun h => ?_) (fun h => ?_) | refine condK_bne (fun h => ?_) (fun h => ?_) | refine condK_intro (fun h => ?_) (fun h => ?_))
          · simp (maxSteps := 2000000) only [↓vP0, vQ0, vT0, simprocAttr]
            refine callK_det (c_ntake (min (max 44 (43 + (j : Int))) 47) (by omega) (by omega)) [2] ?_ ?_ ?_ rfl (by simp) ?_
            · simp [ren, rens, sg, sig, okIn, okIns, exK, leK, leF, leV, matK, objM, renO, roSame, lh, born, AObj.born, AObj.live, injOk, kindOf, rens_ints, okIns_ints, List.range, List.range.loop, mrg, mset]
            · simp [ren, rens, sg, sig, okIn, okIns, exK, leK, leF, leV, matK, objM, renO, roSame, lh, born, AObj.born, AObj.live, injOk, kindOf, rens_ints, okIns_ints, List.range, List.range.loop, mrg, mset]
            · simp [ren, rens, sg, sig, okIn, okIns, exK, leK, leF, leV, matK, objM, renO, roSame, lh, born, AObj.born, AObj.live, injOk, kindOf, rens_ints, okIns_ints, List.range, List.range.loop, mrg, mset]
            simp (maxSteps := 2000000) only [↓vP0, vQ0, vT0, simprocAttr]
            refine chk_intro (by omega) ?_
            simp (maxSteps := 2000000) only [↓vP0, vQ0, vT0, simprocAttr]
            refine chk_intro (by rw [hlen2]; omega) ?_
            simp (maxSteps := 2000000) only [↓vP0, vQ0, vT0, simprocAttr, hdj]
            simp (disch := omega) only [wr64, wru64, wru8, tdv, tmd, fdv]
            have hd0 : dctx i j = min (43 + j) 47 := by unfold dctx; rw [if_neg (by omega)]
            rw [evF_snoc _ (base + dctx i j) _ _ (by rw [hd0]; omega)]
            have hz : mv base (evT (evM i) v i j) ++ [(base + dctx i j, dig v (i - 1 - j))] = mv base (evT (evM i) v i (j + 1)) := by rw [evT_succ, mv_app, mv_one]
            have ht : min (min (max 44 (43 + (j : Int))) 47 + 1) 47 = min (max 44 (43 + ((j + 1 : Nat) : Int))) 47 := by omega
            have hs : (i : Int) - 1 - (j : Int) - 1 = (i : Int) - 1 - ((j + 1 : Nat) : Int) := by omega
            rw [hz, ht, hs]
            refine ⟨j + 1, by omega, by omega, [0, 4, 2], ?_⟩
            simp only [leR]
            simp [ren, rens, sg, sig, okIn, okIns, exK, leK, leF, leV, matK, objM, renO, roSame, lh, born, AObj.born, AObj.live, injOk, kindOf, rens_ints, okIns_ints, List.range, List.range.loop, mrg, mset, leF, leV, leK, evF_rens, evF_okIns, Nat.add_assoc]
          · have hj0 : j = 0 := by omega
            subst hj0
            simp only [Int.natCast_zero] at hdj
            simp (maxSteps := 2000000) only [↓vP0, vQ0, vT0, simprocAttr]
            refine chk_intro (by omega) ?_
            simp (maxSteps := 2000000) only [↓vP0, vQ0, vT0, simprocAttr]
            refine chk_intro (by rw [hlen2]; omega) ?_
            simp (maxSteps := 2000000) only [↓vP0, vQ0, vT0, simprocAttr, hdj]
            simp (disch := omega) only [wr64, wru64, wru8, tdv, tmd, fdv]
            have hd0 : dctx i 0 = 23 + i := rfl
            rw [evF_snoc _ (base + dctx i 0) _ _ (by rw [hd0]; omega)]
            have hz : mv base (evT (evM i) v i 0) ++ [(base + dctx i 0, dig v (i - 1 - 0))] = mv base (evT (evM i) v i 1) := by rw [evT_succ _ _ _ 0, mv_app, mv_one]
            rw [hz]
            refine ⟨1, by omega, by omega, [0, 4, 2], ?_⟩
            simp only [leR]
            simp [ren, rens, sg, sig, okIn, okIns, exK, leK, leF, leV, matK, objM, renO, roSame, lh, born, AObj.born, AObj.live, injOk, kindOf, rens_ints, okIns_ints, List.range, List.range.loop, mrg, mset, leF, leV, leK, evF_rens, evF_okIns, Nat.add_assoc]
            all_goals omega
        · have hj' : j = i := by omega
          subst hj'
          simp (maxSteps := 2000000) only [↓vP0, vQ0, vT0, simprocAttr]
          (with_reducible first | refine condK_dec (fun h => ?_) (fun h => ?_) | refine condK_beq (fun h => ?_) (fun h => ?_) | refine condK_bne (fun h => ?_) (fun h => ?_) | refine condK_intro (fun h => ?_) (fun h => ?_))
          · have hnz := h
            rw [if_neg hnz] at hne
            simp (maxSteps := 2000000) only [↓vP0, vQ0, vT0, simprocAttr]
            (with_reducible first | refine condK_dec (fun h => ?_) (fun h => ?_) | refine condK_beq (fun h => ?_) (fun h => ?_) | refine condK_bne (fun h => ?_) (fun h => ?_) | refine condK_intro (fun h => ?_) (fun h => ?_))
            · rw [if_pos h] at hne
              simp (maxSteps := 2000000) only [↓vP0, vQ0, vT0, simprocAttr]
              refine chk_intro (by rw [hlen2]; omega) ?_
              simp (maxSteps := 2000000) only [↓vP0, vQ0, vT0, simprocAttr]
              simp (disch := omega) only [wr64, wru64, wru8, tdv, tmd, fdv]
              rw [evF_snoc _ (base + 22) _ _ (by omega)]
              have hz : mv base (evT (evM j) v j j) ++ [(base + 22, 1)] = mv base (numEv false n) := by rw [hne, mv_app, mv_one]
              rw [hz]
              refine exit_of [5] (.slice 0 0 (numEv false n).length) [.own (evF (mv base (numEv false n))) 100] ⟨rfl, rfl⟩ ?_ ?_ rfl ?_ ?_
              all_goals simp [ren, rens, sg, sig, okIn, okIns, exK, leK, leF, leV, matK, objM, renO, roSame, lh, born, AObj.born, AObj.live, injOk, kindOf, rens_ints, okIns_ints, List.range, List.range.loop, mrg, mset, hne, evT_len, evF_rens, evF_okIns]
            · rw [if_neg h] at hne
              simp (maxSteps := 2000000) only [↓vP0, vQ0, vT0, simprocAttr]
              refine chk_intro (by rw [hlen2]; omega) ?_
              simp (maxSteps := 2000000) only [↓vP0, vQ0, vT0, simprocAttr]
              simp (disch := omega) only [wr64, wru64, wru8, tdv, tmd, fdv]
              rw [evF_snoc _ (base + 22) _ _ (by omega)]
              have hz : mv base (evT (evM j) v j j) ++ [(base + 22, 0)] = mv base (numEv false n) := by rw [hne, mv_app, mv_one]
              rw [hz]
              refine exit_of [5] (.slice 0 0 (numEv false n).length) [.own (evF (mv base (numEv false n))) 100] ⟨rfl, rfl⟩ ?_ ?_ rfl ?_ ?_
              all_goals simp [ren, rens, sg, sig, okIn, okIns, exK, leK, leF, leV, matK, objM, renO, roSame, lh, born, AObj.born, AObj.live, injOk, kindOf, rens_ints, okIns_ints, List.range, List.range.loop, mrg, mset, hne, evT_len, evF_rens, evF_okIns]
          · have hn0 : n = 0 := by omega
            subst hn0
            rw [if_pos rfl, List.append_nil] at hne
            simp (maxSteps := 2000000) only [↓vP0, vQ0, vT0, simprocAttr]
            refine exit_of [1] (.slice 0 0 (numEv false 0).length) [.own (evF (mv base (numEv false 0))) 100] ⟨rfl, rfl⟩ ?_ ?_ rfl ?_ ?_
            all_goals simp [ren, rens, sg, sig, okIn, okIns, exK, leK, leF, leV, matK, objM, renO, roSame, lh, born, AObj.born, AObj.live, injOk, kindOf, rens_ints, okIns_ints, List.range, List.range.loop, mrg, mset, hne, evT_len, evF_rens, evF_okIns]
end Go.Proofs.Ytbfefpkhalegmaa
