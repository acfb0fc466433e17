/- Contracts: events put into a code; numbers encoded by the program. -/
import Derived.Test.YtbfefpkhalegmaaN2

set_option linter.unusedVariables false
set_option linter.unusedSimpArgs false
namespace Go.Proofs.Ytbfefpkhalegmaa
open Go
set_option maxHeartbeats 4000000
set_option maxRecDepth 20000

theorem encAll_take (e : Enc) (l : List (Nat × Int)) (i : Nat) (h : i < l.length) : encAll e (l.take (i + 1)) = (encAll e (l.take i)).put (l.getD i (0, 0)).1 (l.getD i (0, 0)).2 := by
  rw [List.take_succ_eq_append_getElem h, encAll_app]
  have : l.getD i (0, 0) = l[i] := by simp [List.getD_eq_getElem?_getD, List.getElem?_eq_getElem h]
  rw [this]; rfl
theorem encAll_takeOk {e : Enc} (he : e.Ok) {l : List (Nat × Int)} (hl : EvsOk e.st.length l) (i : Nat) : (encAll e (l.take i)).Ok ∧ (encAll e (l.take i)).kd = e.kd ∧ (encAll e (l.take i)).st.length = e.st.length ∧ (encAll e (l.take i)).out.length ≤ e.out.length + 4 * i := by
  obtain ⟨a, b, c, d⟩ := encAll_ok (l.take i) e he (fun x hx => hl x (List.mem_of_mem_take hx))
  exact ⟨a, b, c, by have := List.length_take_le i l; omega⟩
theorem EvsOk.get {n : Nat} {l : List (Nat × Int)} (h : EvsOk n l) {i : Nat} (hi : i < l.length) : (l.getD i (0, 0)).1 < n ∧ KdOk (l.getD i (0, 0)).2 := by
  have : l.getD i (0, 0) = l[i] := by simp [List.getD_eq_getElem?_getD, List.getElem?_eq_getElem hi]
  rw [this]; exact h _ (List.getElem_mem hi)

theorem c_put (e : Enc) (he : e.Ok) (l : List (Nat × Int)) (hl : EvsOk e.st.length l) (hn : l.length ≤ 100000000) (hlen : e.out.length + 4 * l.length ≤ 1099511627776) :
    LCall Try.prog 70 [.ptr 0 0, .slice 3 0 l.length] [.own (pEncC e 1 2) 126, .own (ints .i64 e.st) 3, .own (ints .u8 e.out) 5, .ro (evF l) 100] fun r L =>
      r = .int .i64 0 ∧ L = [.own (pEncC (encAll e l) 1 4) 126, .own (ints .i64 (encAll e l).st) 3, .dead, .ro (evF l) 100, .own (ints .u8 (encAll e l).out) 5] := by
  refine lcall_of_vc tyok Try.func70 rfl (by rfl) Try.results70 Try.ntmps70 ?_; intro C hD
  simp (maxSteps := 2000000) only [↓vP0, vQ0, vT0, simprocAttr]
  refine loopK_ren tyok hD (α := Nat) (fun i => i ≤ l.length) (fun i => l.length - i) (fun i => [.ptr 0 0, .junk, .junk, .junk, .junk, .junk, .junk, .junk, .slice 3 0 l.length, .int .i64 l.length, .int .i64 i, .junk, .junk, .junk, .junk, .junk, .junk, .junk, .junk, .junk, .junk, .junk, .junk, .junk])
    (fun i => [.own (pEncC (encAll e (l.take i)) 1 4) 126, .own (ints .i64 (encAll e (l.take i)).st) 3, .dead, .ro (evF l) 100, .own (ints .u8 (encAll e (l.take i)).out) 5]) 0 (by omega) ⟨[2], ?_⟩ ?_
  · simp only [leR, List.take_zero, encAll]
    simp [ren, rens, sg, sig, okIn, okIns, exK, leK, leF, leV, matK, objM, renO, roSame, lh, born, AObj.born, AObj.live, injOk, kindOf, rens_ints, okIns_ints, List.range, List.range.loop, mrg, mset, leF, leV, leK, pEncC_rens, pEncC_okIns, pEncC_inj, evF_rens, evF_okIns]
  intro i hi
  obtain ⟨ho, hk, hs, hout⟩ := encAll_takeOk he hl i
  simp (maxSteps := 2000000) only [↓vP0, vQ0, vT0, simprocAttr]
  (with_reducible first | refine condK_dec (fun h => ?_) (fun h => ?_) | refine condK_beq (fun h => ?_) (fun h => ?_) | refine condK_bne (fun h => ?_) (fun h => ?_) | refine condK_intro (fun h => ?_) (fun h => ?_))
  · have hi' : i < l.length := by omega
    have hg := evF_get l i hi'
    obtain ⟨g1, g2⟩ := hl.get hi'
    simp (maxSteps := 2000000) only [↓vP0, vQ0, vT0, simprocAttr]
    refine chk_intro (by omega) ?_
    simp (maxSteps := 2000000) only [↓vP0, vQ0, vT0, simprocAttr]
    refine chk_intro (by rw [evF_len]; omega) ?_
    simp (maxSteps := 2000000) only [↓vP0, vQ0, vT0, simprocAttr, hg]
    refine callK_det (c_pPut _ ho _ (by rw [hs]; exact g1) _ g2 (by omega)) [0, 1, 4] ?_ ?_ ?_ rfl (by simp [pEncL, pEncM]) ?_
    · simp [ren, rens, sg, sig, okIn, okIns, exK, leK, leF, leV, matK, objM, renO, roSame, lh, born, AObj.born, AObj.live, injOk, kindOf, rens_ints, okIns_ints, List.range, List.range.loop, mrg, mset]
    · simp [ren, rens, sg, sig, okIn, okIns, exK, leK, leF, leV, matK, objM, renO, roSame, lh, born, AObj.born, AObj.live, injOk, kindOf, rens_ints, okIns_ints, List.range, List.range.loop, mrg, mset, pEncL]
    · simp [ren, rens, sg, sig, okIn, okIns, exK, leK, leF, leV, matK, objM, renO, roSame, lh, born, AObj.born, AObj.live, injOk, kindOf, rens_ints, okIns_ints, List.range, List.range.loop, mrg, mset, pEncL, pEncC_rens, pEncC_okIns, pEncC_inj, evF_rens, evF_okIns]
    simp only [pEncL, pEncM]
    simp (maxSteps := 2000000) only [↓vP0, vQ0, vT0, simprocAttr, pEncC_rens]
    simp (disch := omega) only [wr64, wru64, wru8, tdv, tmd, fdv]
    rw [← encAll_take e l i hi']
    refine ⟨i + 1, by omega, by omega, [6], ?_⟩
    simp only [leR, Int.natCast_add, Int.cast_ofNat_Int]
    simp [ren, rens, sg, sig, okIn, okIns, exK, leK, leF, leV, matK, objM, renO, roSame, lh, born, AObj.born, AObj.live, injOk, kindOf, rens_ints, okIns_ints, List.range, List.range.loop, mrg, mset, leF, leV, leK, pEncC_rens, pEncC_okIns, pEncC_inj, evF_rens, evF_okIns]
  · have : i = l.length := by omega
    subst this
    rw [List.take_length]
    simp (maxSteps := 2000000) only [↓vP0, vQ0, vT0, simprocAttr]
    refine exit_of [4] (.int .i64 0) [.own (pEncC (encAll e l) 1 4) 126, .own (ints .i64 (encAll e l).st) 3, .dead, .ro (evF l) 100, .own (ints .u8 (encAll e l).out) 5] ⟨rfl, rfl⟩ ?_ ?_ rfl ?_ ?_
    all_goals simp [ren, rens, sg, sig, okIn, okIns, exK, leK, leF, leV, matK, objM, renO, roSame, lh, born, AObj.born, AObj.live, injOk, kindOf, rens_ints, okIns_ints, List.range, List.range.loop, mrg, mset, pEncC_rens, pEncC_okIns, pEncC_inj, evF_rens, evF_okIns]
end Go.Proofs.Ytbfefpkhalegmaa

set_option linter.unusedVariables false
set_option linter.unusedSimpArgs false
namespace Go.Proofs.Ytbfefpkhalegmaa
open Go
set_option maxHeartbeats 4000000
set_option maxRecDepth 20000

def numF : List (Bool × Int) → List AV
  | [] => []
  | (b, n) :: l => .bool b :: .int .i64 n :: numF l
theorem numF_len : ∀ l, (numF l).length = l.length * 2
  | [] => rfl
  | (b, n) :: l => by simp [numF, numF_len l]; omega
theorem numF_plain : ∀ l, plainVs (numF l) = true
  | [] => rfl
  | (b, n) :: l => by simp [numF, plainVs, plainV, numF_plain l]
theorem numF_cell1 : ∀ l, (numF l).all AV.cell1 = true
  | [] => rfl
  | (b, n) :: l => by simp only [numF, List.all_cons, AV.cell1, numF_cell1 l, Bool.true_and]
theorem numF_rens (σ : Nat → Nat) (l : List (Bool × Int)) : rens σ (numF l) = numF l := rens_plain _ _ (numF_plain l)
theorem numF_okIns (B : Nat → Prop) (l : List (Bool × Int)) : okIns B (numF l) = True := by simp [okIns_plain B _ (numF_plain l)]
theorem numF_app : ∀ l m, numF l ++ numF m = numF (l ++ m)
  | [], m => rfl
  | (b, n) :: l, m => by simp [numF, numF_app l m]
theorem numF_snoc (l : List (Bool × Int)) (b : Bool) (n : Int) : numF l ++ [.bool b, .int .i64 n] = numF (l ++ [(b, n)]) := by rw [← numF_app]; rfl
theorem numF_drop : ∀ (l : List (Bool × Int)) (i : Nat), (numF l).drop (i * 2) = numF (l.drop i)
  | l, 0 => by simp
  | [], i + 1 => by simp [numF]
  | (b, n) :: l, i + 1 => by
    rw [show (i + 1) * 2 = i * 2 + 2 by omega]
    simp [numF, numF_drop l i]
theorem numF_get (l : List (Bool × Int)) (i : Nat) (h : i < l.length) : ((numF l).drop (i * 2)).take 2 = [.bool (l.getD i (false, 0)).1, .int .i64 (l.getD i (false, 0)).2] := by
  rw [numF_drop, List.drop_eq_getElem_cons h]
  have : l.getD i (false, 0) = l[i] := by simp [List.getD_eq_getElem?_getD, List.getElem?_eq_getElem h]
  rw [this]
  obtain ⟨c, b⟩ := l[i]
  simp [numF]

def allEv : List (Bool × Int) → List (Nat × Int)
  | [] => []
  | (b, n) :: l => numEv b n ++ allEv l
theorem allEv_app : ∀ l m, allEv (l ++ m) = allEv l ++ allEv m
  | [], m => rfl
  | (b, n) :: l, m => by simp [allEv, allEv_app l m]
def NumsOk (l : List (Bool × Int)) : Prop := ∀ x ∈ l, NumOk x.1 x.2
instance (l : List (Bool × Int)) : Decidable (NumsOk l) := decidable_of_iff (∀ x ∈ l, numB x.1 x.2 = true) ⟨fun h x hx => (numB_iff _ _).1 (h x hx), fun h x hx => (numB_iff _ _).2 (h x hx)⟩
instance (k : Int) : Decidable (KdOk k) := by unfold KdOk; infer_instance

theorem numEv_ok {none : Bool} {n : Int} (h : NumOk none n) : EvsOk 48 (numEv none n) ∧ (numEv none n).length ≤ 50 := by
  cases none with
  | true => simp [numEv, EvsOk, KdOk]
  | false =>
    have hc := log_bd h
    rw [numEv_eq]
    generalize hcc : (n.natAbs + 1).log2 = c at hc
    refine ⟨?_, ?_⟩
    · intro x hx
      simp only [evT, evM, evH, List.mem_append, List.mem_cons, List.mem_map, List.mem_range'_1] at hx
      rcases hx with (((rfl | ⟨i, hi, rfl⟩) | hx) | ⟨i, hi, rfl⟩) | hx
      · simp [KdOk]
      · simp [KdOk]; omega
      · split at hx
        · simp at hx; subst hx; simp [KdOk]; omega
        · simp at hx
      · refine ⟨?_, ?_⟩
        · simp only [dctx]; split <;> omega
        · simp only [dig, KdOk]; omega
      · split at hx
        · simp at hx
        · simp at hx; subst hx; simp only [KdOk]; split <;> simp
    · simp only [List.length_append, evT_len, evM, evH_len]
      split <;> split <;> simp <;> omega
theorem allEv_ok : ∀ {l : List (Bool × Int)}, NumsOk l → EvsOk 48 (allEv l) ∧ (allEv l).length ≤ 50 * l.length
  | [], _ => by simp [allEv, EvsOk]
  | (b, n) :: l, h => by
    obtain ⟨h1, h2⟩ := numEv_ok (none := b) (n := n) (h (b, n) (List.mem_cons_self ..))
    obtain ⟨h3, h4⟩ := allEv_ok (l := l) fun x hx => h x (List.mem_cons_of_mem _ hx)
    refine ⟨fun x hx => ?_, ?_⟩
    · rcases List.mem_append.1 hx with hx | hx
      · exact h1 x hx
      · exact h3 x hx
    · simp only [allEv, List.length_append, List.length_cons]; omega

/-- What Encode makes of numbers: its error and the code. -/
def encOk (kd : Int) (l : List (Bool × Int)) : Prop := KdOk kd ∧ l.length ≤ 20000 ∧ NumsOk l
instance (kd : Int) (l : List (Bool × Int)) : Decidable (encOk kd l) := by unfold encOk; infer_instance
def encErr (kd : Int) (l : List (Bool × Int)) : Int := if encOk kd l then 0 else 2
def encCode (kd : Int) (l : List (Bool × Int)) : List Int := if encOk kd l then (encAll (encNew kd (zeros 48)) (allEv l)).fin else []
theorem encAll_nums {kd : Int} (hk : KdOk kd) {l : List (Bool × Int)} (h : NumsOk l) (hl : l.length ≤ 20000) :
    (encAll (encNew kd (zeros 48)) (allEv l)).Ok ∧ (encAll (encNew kd (zeros 48)) (allEv l)).kd = kd ∧ (encAll (encNew kd (zeros 48)) (allEv l)).st.length = 48 ∧ (encAll (encNew kd (zeros 48)) (allEv l)).out.length ≤ 4000000 := by
  obtain ⟨h1, h2⟩ := allEv_ok h
  obtain ⟨a, b, c, d⟩ := encAll_ok (allEv l) (encNew kd (zeros 48)) (encNew_ok (zeros_ok hk (by omega))) (by simpa [encNew, zeros] using h1)
  refine ⟨a, b, by simpa [encNew, zeros] using c, ?_⟩
  have : (encNew kd (zeros 48)).out.length = 0 := rfl
  omega

theorem c_pEncode (kd : Int) (l : List (Bool × Int)) (hb : l.length ≤ 9223372036854775807) : LCall Try.prog 16 [.int .i64 kd, .slice 0 0 l.length] [.ro (numF l) 28] fun r L =>
    r = .tup [.slice 1 0 (encCode kd l).length, .int .i64 (encErr kd l)] ∧ L = [.ro (numF l) 28, .own (ints .u8 (encCode kd l)) 5] := by
  refine lcall_of_vcB tyok Try.func16 rfl (by rfl) Try.results16 Try.ntmps16 ?_; intro C hD
  by_cases hk : KdOk kd
  case neg =>
    have hno : ¬ encOk kd l := fun h => hk h.1
    simp (maxSteps := 2000000) only [↓vP0, vQ0, vT0, simprocAttr]
    refine callK_pure (c_pNewBad kd hk 48) rfl rfl ?_
    simp (maxSteps := 2000000) only [↓vP0, vQ0, vT0, simprocAttr]
    refine exitB_of [(5, .fr 0 [0])] ?_
    simp (maxSteps := 2000000) only [↓vP0, vQ0, vT0, simprocAttr]
    refine exit_of [2] (.tup [.slice 1 0 (encCode kd l).length, .int .i64 (encErr kd l)]) [.ro (numF l) 28, .own (ints .u8 (encCode kd l)) 5] ⟨rfl, rfl⟩ ?_ ?_ rfl ?_ ?_
    all_goals simp [ren, rens, sg, sig, okIn, okIns, exK, leK, leF, leV, matK, objM, renO, roSame, lh, born, AObj.born, AObj.live, injOk, kindOf, rens_ints, okIns_ints, List.range, List.range.loop, mrg, mset, encCode, encErr, hno, numF_rens, numF_okIns, ints_nil]
  case pos =>
    simp (maxSteps := 2000000) only [↓vP0, vQ0, vT0, simprocAttr]
    refine callK_det (c_pNew kd hk 48 (by omega)) [] ?_ ?_ ?_ rfl (by simp) ?_
    · simp [ren, rens, sg, sig, okIn, okIns, exK, leK, leF, leV, matK, objM, renO, roSame, lh, born, AObj.born, AObj.live, injOk, kindOf, rens_ints, okIns_ints, List.range, List.range.loop, mrg, mset]
    · simp [ren, rens, sg, sig, okIn, okIns, exK, leK, leF, leV, matK, objM, renO, roSame, lh, born, AObj.born, AObj.live, injOk, kindOf, rens_ints, okIns_ints, List.range, List.range.loop, mrg, mset]
    · simp [ren, rens, sg, sig, okIn, okIns, exK, leK, leF, leV, matK, objM, renO, roSame, lh, born, AObj.born, AObj.live, injOk, kindOf, rens_ints, okIns_ints, List.range, List.range.loop, mrg, mset]
    simp (maxSteps := 2000000) only [↓vP0, vQ0, vT0, simprocAttr, zeros_len]
    (with_reducible first | refine condK_dec (fun h => ?_) (fun h => ?_) | refine condK_beq (fun h => ?_) (fun h => ?_) | refine condK_bne (fun h => ?_) (fun h => ?_) | refine condK_intro (fun h => ?_) (fun h => ?_))
    · have hno : ¬ encOk kd l := fun h => by have := h.2.1; omega
      simp (maxSteps := 2000000) only [↓vP0, vQ0, vT0, simprocAttr]
      refine exitB_of [(5, .fr 0 [0])] ?_
      simp (maxSteps := 2000000) only [↓vP0, vQ0, vT0, simprocAttr]
      refine exit_of [3] (.tup [.slice 1 0 (encCode kd l).length, .int .i64 (encErr kd l)]) [.ro (numF l) 28, .own (ints .u8 (encCode kd l)) 5] ⟨rfl, rfl⟩ ?_ ?_ rfl ?_ ?_
      all_goals simp [ren, rens, sg, sig, okIn, okIns, exK, leK, leF, leV, matK, objM, renO, roSame, lh, born, AObj.born, AObj.live, injOk, kindOf, rens_ints, okIns_ints, List.range, List.range.loop, mrg, mset, encCode, encErr, hno, numF_rens, numF_okIns, ints_nil]
    · have hll : l.length ≤ 20000 := by omega
      simp (maxSteps := 2000000) only [↓vP0, vQ0, vT0, simprocAttr]
      refine callK_det (c_pNewEncoder kd (zeros 48) (zeros_ok hk (by omega))) [1] ?_ ?_ ?_ rfl (by simp) ?_
      · simp [ren, rens, sg, sig, okIn, okIns, exK, leK, leF, leV, matK, objM, renO, roSame, lh, born, AObj.born, AObj.live, injOk, kindOf, rens_ints, okIns_ints, List.range, List.range.loop, mrg, mset, zeros_len]
      · simp [ren, rens, sg, sig, okIn, okIns, exK, leK, leF, leV, matK, objM, renO, roSame, lh, born, AObj.born, AObj.live, injOk, kindOf, rens_ints, okIns_ints, List.range, List.range.loop, mrg, mset]
      · simp [ren, rens, sg, sig, okIn, okIns, exK, leK, leF, leV, matK, objM, renO, roSame, lh, born, AObj.born, AObj.live, injOk, kindOf, rens_ints, okIns_ints, List.range, List.range.loop, mrg, mset]
      simp (maxSteps := 2000000) only [↓vP0, vQ0, vT0, simprocAttr, pEncC_rens]
      refine loopK_ren tyok hD (α := Nat) (fun i => i ≤ l.length ∧ NumsOk (l.take i)) (fun i => l.length - i) (fun i => [.junk, .junk, .junk, .junk, .junk, .junk, .junk, .junk, .ptr 1 0, .junk, .junk, .junk, .junk, .junk, .junk, .junk, .junk, .junk, .junk, .junk, .junk, .junk, .junk, .junk, .junk, .junk, .junk, .junk, .junk, .slice 0 0 l.length, .int .i64 l.length, .int .i64 i, .junk, .junk, .junk, .junk, .junk, .junk, .junk, .junk, .junk, .junk, .junk, .junk, .junk])
        (fun i => [.ro (numF l) 28, .own (pEncC (encAll (encNew kd (zeros 48)) (allEv (l.take i))) 2 3) 126, .own (ints .i64 (encAll (encNew kd (zeros 48)) (allEv (l.take i))).st) 3, .own (ints .u8 (encAll (encNew kd (zeros 48)) (allEv (l.take i))).out) 5]) 0
        ⟨by omega, by simp [NumsOk]⟩ ⟨[3, 4, 5], ?_⟩ ?_
      · simp only [leR, List.take_zero, allEv, encAll]
        simp [ren, rens, sg, sig, okIn, okIns, exK, leK, leF, leV, matK, objM, renO, roSame, lh, born, AObj.born, AObj.live, injOk, kindOf, rens_ints, okIns_ints, List.range, List.range.loop, mrg, mset, leF, leV, leK, pEncC_rens, pEncC_okIns, pEncC_inj, numF_rens, numF_okIns, encNew, ints_nil]
      rintro i ⟨hi, hv⟩
      obtain ⟨ho, hkd, hs, hout⟩ := encAll_nums hk hv (by have := List.length_take_le i l; omega)
      generalize hE : encAll (encNew kd (zeros 48)) (allEv (l.take i)) = E at ho hkd hs hout
      simp (maxSteps := 2000000) only [↓vP0, vQ0, vT0, simprocAttr]
      (with_reducible first | refine condK_dec (fun h => ?_) (fun h => ?_) | refine condK_beq (fun h => ?_) (fun h => ?_) | refine condK_bne (fun h => ?_) (fun h => ?_) | refine condK_intro (fun h => ?_) (fun h => ?_))
      · have hi' : i < l.length := by omega
        have hg := numF_get l i hi'
        have htk : l.take (i + 1) = l.take i ++ [l.getD i (false, 0)] := by
          rw [List.take_succ_eq_append_getElem hi']; simp [List.getD_eq_getElem?_getD, List.getElem?_eq_getElem hi']
        generalize hx : l.getD i (false, 0) = x at hg htk
        obtain ⟨xb, xn⟩ := x
        simp (maxSteps := 2000000) only [↓vP0, vQ0, vT0, simprocAttr]
        refine chk_intro (by omega) ?_
        simp (maxSteps := 2000000) only [↓vP0, vQ0, vT0, simprocAttr]
        refine chk_intro (by rw [numF_len]; omega) ?_
        simp (maxSteps := 2000000) only [↓vP0, vQ0, vT0, simprocAttr, hg]
        refine callK_pure (c_pNumValid xb xn) rfl rfl ?_
        cases hB : numB xb xn with
        | false =>
          have hno : ¬ encOk kd l := fun h => by
            have := (numB_iff _ _).2 (h.2.2 _ (List.getElem_mem hi'))
            have e : l[i] = (xb, xn) := by rw [← hx]; simp [List.getD_eq_getElem?_getD, List.getElem?_eq_getElem hi']
            rw [e, hB] at this; cases this
          simp (maxSteps := 2000000) only [↓vP0, vQ0, vT0, simprocAttr]
          refine exitB_of [(5, .fr 0 [0])] ?_
          simp (maxSteps := 2000000) only [↓vP0, vQ0, vT0, simprocAttr]
          refine exit_of [5] (.tup [.slice 1 0 (encCode kd l).length, .int .i64 (encErr kd l)]) [.ro (numF l) 28, .own (ints .u8 (encCode kd l)) 5] ⟨rfl, rfl⟩ ?_ ?_ rfl ?_ ?_
          all_goals simp [ren, rens, sg, sig, okIn, okIns, exK, leK, leF, leV, matK, objM, renO, roSame, lh, born, AObj.born, AObj.live, injOk, kindOf, rens_ints, okIns_ints, List.range, List.range.loop, mrg, mset, encCode, encErr, hno, numF_rens, numF_okIns, ints_nil]
        | true =>
          have hok := (numB_iff _ _).1 hB
          obtain ⟨k1, k2⟩ := numEv_ok hok
          simp (maxSteps := 2000000) only [↓vP0, vQ0, vT0, simprocAttr]
          refine callK_det (c_pEvents 0 (by omega) xb xn hok) [] ?_ ?_ ?_ rfl (by simp) ?_
          · simp [ren, rens, sg, sig, okIn, okIns, exK, leK, leF, leV, matK, objM, renO, roSame, lh, born, AObj.born, AObj.live, injOk, kindOf, rens_ints, okIns_ints, List.range, List.range.loop, mrg, mset]
          · simp [ren, rens, sg, sig, okIn, okIns, exK, leK, leF, leV, matK, objM, renO, roSame, lh, born, AObj.born, AObj.live, injOk, kindOf, rens_ints, okIns_ints, List.range, List.range.loop, mrg, mset]
          · simp [ren, rens, sg, sig, okIn, okIns, exK, leK, leF, leV, matK, objM, renO, roSame, lh, born, AObj.born, AObj.live, injOk, kindOf, rens_ints, okIns_ints, List.range, List.range.loop, mrg, mset]
          rw [mv_zero]
          simp (maxSteps := 2000000) only [↓vP0, vQ0, vT0, simprocAttr, evF_rens]
          refine callK_det (c_put E ho (numEv xb xn) (by rw [hs]; exact k1) (by omega) (by omega)) [1, 2, 3, 5] ?_ ?_ ?_ rfl (by simp) ?_
          · simp [ren, rens, sg, sig, okIn, okIns, exK, leK, leF, leV, matK, objM, renO, roSame, lh, born, AObj.born, AObj.live, injOk, kindOf, rens_ints, okIns_ints, List.range, List.range.loop, mrg, mset]
          · simp [ren, rens, sg, sig, okIn, okIns, exK, leK, leF, leV, matK, objM, renO, roSame, lh, born, AObj.born, AObj.live, injOk, kindOf, rens_ints, okIns_ints, List.range, List.range.loop, mrg, mset]
          · simp [ren, rens, sg, sig, okIn, okIns, exK, leK, leF, leV, matK, objM, renO, roSame, lh, born, AObj.born, AObj.live, injOk, kindOf, rens_ints, okIns_ints, List.range, List.range.loop, mrg, mset, pEncC_rens, pEncC_okIns, pEncC_inj, evF_rens, evF_okIns]
          have hn2 : encAll E (numEv xb xn) = encAll (encNew kd (zeros 48)) (allEv (l.take (i + 1))) := by
            rw [htk, allEv_app, encAll_app, hE]; simp [allEv]
          rw [hn2]
          simp (maxSteps := 2000000) only [↓vP0, vQ0, vT0, simprocAttr, pEncC_rens]
          simp (disch := omega) only [wr64, wru64, wru8, tdv, tmd, fdv]
          refine ⟨i + 1, ⟨by omega, by rw [htk]; intro y hy; rcases List.mem_append.1 hy with hy | hy; exact hv y hy; simp at hy; subst hy; exact hok⟩, by omega, [1, 2, 6], ?_⟩
          simp only [leR, Int.natCast_add, Int.cast_ofNat_Int]
          simp [ren, rens, sg, sig, okIn, okIns, exK, leK, leF, leV, matK, objM, renO, roSame, lh, born, AObj.born, AObj.live, injOk, kindOf, rens_ints, okIns_ints, List.range, List.range.loop, mrg, mset, leF, leV, leK, pEncC_rens, pEncC_okIns, pEncC_inj, evF_rens, evF_okIns, numF_rens, numF_okIns]
      · have hi' : i = l.length := by omega
        subst hi'
        rw [List.take_length] at hE hv
        have hyes : encOk kd l := ⟨hk, hll, hv⟩
        simp (maxSteps := 2000000) only [↓vP0, vQ0, vT0, simprocAttr]
        refine callK_det (c_pEnd E ho (by omega)) [1, 2, 3] ?_ ?_ ?_ rfl (by simp [pEncR]) ?_
        · simp [ren, rens, sg, sig, okIn, okIns, exK, leK, leF, leV, matK, objM, renO, roSame, lh, born, AObj.born, AObj.live, injOk, kindOf, rens_ints, okIns_ints, List.range, List.range.loop, mrg, mset]
        · simp [ren, rens, sg, sig, okIn, okIns, exK, leK, leF, leV, matK, objM, renO, roSame, lh, born, AObj.born, AObj.live, injOk, kindOf, rens_ints, okIns_ints, List.range, List.range.loop, mrg, mset, pEncR]
        · simp [ren, rens, sg, sig, okIn, okIns, exK, leK, leF, leV, matK, objM, renO, roSame, lh, born, AObj.born, AObj.live, injOk, kindOf, rens_ints, okIns_ints, List.range, List.range.loop, mrg, mset, pEncR, pEncC_rens, pEncC_okIns, pEncC_inj]
        simp only [pEncR]
        simp (maxSteps := 2000000) only [↓vP0, vQ0, vT0, simprocAttr, pEncC_rens]
        refine exitB_P (exit_of [4] (.tup [.slice 1 0 (encCode kd l).length, .int .i64 (encErr kd l)]) [.ro (numF l) 28, .own (ints .u8 (encCode kd l)) 5] ⟨rfl, rfl⟩ ?_ ?_ rfl ?_ ?_)
        all_goals simp [ren, rens, sg, sig, okIn, okIns, exK, leK, leF, leV, matK, objM, renO, roSame, lh, born, AObj.born, AObj.live, injOk, kindOf, rens_ints, okIns_ints, List.range, List.range.loop, mrg, mset, encCode, encErr, hyes, hE, numF_rens, numF_okIns, ints_nil]
end Go.Proofs.Ytbfefpkhalegmaa

set_option linter.unusedVariables false
set_option linter.unusedSimpArgs false
namespace Go.Proofs.Ytbfefpkhalegmaa
open Go
set_option maxHeartbeats 4000000
set_option maxRecDepth 20000

theorem evF_take (l : List (Nat × Int)) : (evF l).take (l.length * 2) = evF l := List.take_of_length_le (by rw [evF_len]; omega)
theorem evF_append (l m : List (Nat × Int)) : evF l ++ evF m = evF (l ++ m) := by rw [evF, evF, evF, flat_app, ints_append]

theorem c_rEncode (kd : Int) (l : List (Bool × Int)) (hb : l.length ≤ 9223372036854775807) : LCall Try.prog 22 [.int .i64 kd, .slice 0 0 l.length] [.ro (numF l) 28] fun r L =>
    r = .tup [.slice 1 0 (encCode kd l).length, .int .i64 (encErr kd l)] ∧ L = [.ro (numF l) 28, .own (ints .u8 (encCode kd l)) 5] := by
  refine lcall_of_vcB tyok Try.func22 rfl (by rfl) Try.results22 Try.ntmps22 ?_; intro C hD
  by_cases hk : KdOk kd
  case neg =>
    have hno : ¬ encOk kd l := fun h => hk h.1
    simp (maxSteps := 2000000) only [↓vP0, vQ0, vT0, simprocAttr]
    refine callK_pure (c_rNewBad kd hk 48) rfl rfl ?_
    simp (maxSteps := 2000000) only [↓vP0, vQ0, vT0, simprocAttr]
    refine exitB_of [(5, .fr 0 [0])] ?_
    simp (maxSteps := 2000000) only [↓vP0, vQ0, vT0, simprocAttr]
    refine exit_of [2] (.tup [.slice 1 0 (encCode kd l).length, .int .i64 (encErr kd l)]) [.ro (numF l) 28, .own (ints .u8 (encCode kd l)) 5] ⟨rfl, rfl⟩ ?_ ?_ rfl ?_ ?_
    all_goals simp [ren, rens, sg, sig, okIn, okIns, exK, leK, leF, leV, matK, objM, renO, roSame, lh, born, AObj.born, AObj.live, injOk, kindOf, rens_ints, okIns_ints, List.range, List.range.loop, mrg, mset, encCode, encErr, hno, numF_rens, numF_okIns, ints_nil]
  case pos =>
    simp (maxSteps := 2000000) only [↓vP0, vQ0, vT0, simprocAttr]
    refine callK_det (c_rNew kd hk 48 (by omega)) [] ?_ ?_ ?_ rfl (by simp) ?_
    · simp [ren, rens, sg, sig, okIn, okIns, exK, leK, leF, leV, matK, objM, renO, roSame, lh, born, AObj.born, AObj.live, injOk, kindOf, rens_ints, okIns_ints, List.range, List.range.loop, mrg, mset]
    · simp [ren, rens, sg, sig, okIn, okIns, exK, leK, leF, leV, matK, objM, renO, roSame, lh, born, AObj.born, AObj.live, injOk, kindOf, rens_ints, okIns_ints, List.range, List.range.loop, mrg, mset]
    · simp [ren, rens, sg, sig, okIn, okIns, exK, leK, leF, leV, matK, objM, renO, roSame, lh, born, AObj.born, AObj.live, injOk, kindOf, rens_ints, okIns_ints, List.range, List.range.loop, mrg, mset]
    simp (maxSteps := 2000000) only [↓vP0, vQ0, vT0, simprocAttr, zeros_len]
    (with_reducible first | refine condK_dec (fun h => ?_) (fun h => ?_) | refine condK_beq (fun h => ?_) (fun h => ?_) | refine condK_bne (fun h => ?_) (fun h => ?_) | refine condK_intro (fun h => ?_) (fun h => ?_))
    · have hno : ¬ encOk kd l := fun h => by have := h.2.1; omega
      simp (maxSteps := 2000000) only [↓vP0, vQ0, vT0, simprocAttr]
      refine exitB_of [(5, .fr 0 [0])] ?_
      simp (maxSteps := 2000000) only [↓vP0, vQ0, vT0, simprocAttr]
      refine exit_of [3] (.tup [.slice 1 0 (encCode kd l).length, .int .i64 (encErr kd l)]) [.ro (numF l) 28, .own (ints .u8 (encCode kd l)) 5] ⟨rfl, rfl⟩ ?_ ?_ rfl ?_ ?_
      all_goals simp [ren, rens, sg, sig, okIn, okIns, exK, leK, leF, leV, matK, objM, renO, roSame, lh, born, AObj.born, AObj.live, injOk, kindOf, rens_ints, okIns_ints, List.range, List.range.loop, mrg, mset, encCode, encErr, hno, numF_rens, numF_okIns, ints_nil]
    · have hll : l.length ≤ 20000 := by omega
      simp (maxSteps := 2000000) only [↓vP0, vQ0, vT0, simprocAttr]
      refine loopK_b tyok hD (α := Nat) (fun i => i ≤ l.length ∧ NumsOk (l.take i)) (fun i => l.length - i) (fun i => [.junk, .slice 0 0 l.length, .junk, .junk, .junk, .junk, .ptr 2 0, .junk, .slice 3 0 (allEv (l.take i)).length, .int .i64 i, .junk, .junk, .junk, .junk, .junk, .junk, .junk, .junk, .junk, .junk, .junk, .junk, .junk, .junk, .junk, .junk, .junk, .junk, .junk, .junk, .junk, .junk, .junk, .junk, .junk, .junk, .junk, .junk, .junk, .junk, .junk, .junk, .junk, .junk, .junk, .junk, .junk, .junk, .junk, .junk, .junk, .junk, .junk, .junk, .junk, .junk, .junk, .junk, .junk, .junk, .junk, .junk, .junk, .junk, .junk, .junk, .junk, .junk, .junk])
        (fun i => [.ro (numF l) 28, .own (ints .i64 (zeros 48)) 3, .own [.int .i64 kd, .slice 1 0 48] 60, .own (evF (allEv (l.take i))) 100]) 0
        ⟨by omega, by simp [NumsOk]⟩ ⟨[(100, .fr 8 [])], [1, 2, 3], ?_⟩ ?_
      · simp (maxSteps := 2000000) only [↓vP0, vQ0, vT0, simprocAttr]
        simp only [leR, List.take_zero, allEv]
        simp [ren, rens, sg, sig, okIn, okIns, exK, leK, leF, leV, matK, objM, renO, roSame, lh, born, AObj.born, AObj.live, injOk, kindOf, rens_ints, okIns_ints, List.range, List.range.loop, mrg, mset, leF, leV, leK, numF_rens, numF_okIns, evF, flat, ints_nil]
      rintro i ⟨hi, hv⟩
      obtain ⟨q1, q2⟩ := allEv_ok hv
      have q3 := List.length_take_le i l
      generalize hA : allEv (l.take i) = A at q1 q2
      simp (maxSteps := 2000000) only [↓vP0, vQ0, vT0, simprocAttr]
      (with_reducible first | refine condK_dec (fun h => ?_) (fun h => ?_) | refine condK_beq (fun h => ?_) (fun h => ?_) | refine condK_bne (fun h => ?_) (fun h => ?_) | refine condK_intro (fun h => ?_) (fun h => ?_))
      · have hi' : i < l.length := by omega
        have hg := numF_get l i hi'
        have htk : l.take (i + 1) = l.take i ++ [l.getD i (false, 0)] := by
          rw [List.take_succ_eq_append_getElem hi']; simp [List.getD_eq_getElem?_getD, List.getElem?_eq_getElem hi']
        generalize hx : l.getD i (false, 0) = x at hg htk
        obtain ⟨xb, xn⟩ := x
        simp (maxSteps := 2000000) only [↓vP0, vQ0, vT0, simprocAttr]
        refine chk_intro (by omega) ?_
        simp (maxSteps := 2000000) only [↓vP0, vQ0, vT0, simprocAttr]
        refine chk_intro (by rw [numF_len]; omega) ?_
        simp (maxSteps := 2000000) only [↓vP0, vQ0, vT0, simprocAttr, hg]
        refine callK_pure (c_rNumValid xb xn) rfl rfl ?_
        cases hB : numB xb xn with
        | false =>
          have hno : ¬ encOk kd l := fun h => by
            have := (numB_iff _ _).2 (h.2.2 _ (List.getElem_mem hi'))
            have e : l[i] = (xb, xn) := by rw [← hx]; simp [List.getD_eq_getElem?_getD, List.getElem?_eq_getElem hi']
            rw [e, hB] at this; cases this
          simp (maxSteps := 2000000) only [↓vP0, vQ0, vT0, simprocAttr]
          refine exitB_of [(5, .fr 0 [0])] ?_
          simp (maxSteps := 2000000) only [↓vP0, vQ0, vT0, simprocAttr]
          refine exit_of [4] (.tup [.slice 1 0 (encCode kd l).length, .int .i64 (encErr kd l)]) [.ro (numF l) 28, .own (ints .u8 (encCode kd l)) 5] ⟨rfl, rfl⟩ ?_ ?_ rfl ?_ ?_
          all_goals simp [ren, rens, sg, sig, okIn, okIns, exK, leK, leF, leV, matK, objM, renO, roSame, lh, born, AObj.born, AObj.live, injOk, kindOf, rens_ints, okIns_ints, List.range, List.range.loop, mrg, mset, encCode, encErr, hno, numF_rens, numF_okIns, ints_nil]
        | true =>
          have hok := (numB_iff _ _).1 hB
          obtain ⟨k1, k2⟩ := numEv_ok hok
          simp (maxSteps := 2000000) only [↓vP0, vQ0, vT0, simprocAttr]
          refine chk_intro (by omega) ?_
          simp (maxSteps := 2000000) only [↓vP0, vQ0, vT0, simprocAttr]
          refine chk_intro (by rw [numF_len]; omega) ?_
          simp (maxSteps := 2000000) only [↓vP0, vQ0, vT0, simprocAttr, hg]
          refine callK_det (c_rEvents xb xn hok) [] ?_ ?_ ?_ rfl (by simp) ?_
          · simp [ren, rens, sg, sig, okIn, okIns, exK, leK, leF, leV, matK, objM, renO, roSame, lh, born, AObj.born, AObj.live, injOk, kindOf, rens_ints, okIns_ints, List.range, List.range.loop, mrg, mset]
          · simp [ren, rens, sg, sig, okIn, okIns, exK, leK, leF, leV, matK, objM, renO, roSame, lh, born, AObj.born, AObj.live, injOk, kindOf, rens_ints, okIns_ints, List.range, List.range.loop, mrg, mset]
          · simp [ren, rens, sg, sig, okIn, okIns, exK, leK, leF, leV, matK, objM, renO, roSame, lh, born, AObj.born, AObj.live, injOk, kindOf, rens_ints, okIns_ints, List.range, List.range.loop, mrg, mset]
          simp (maxSteps := 2000000) only [↓vP0, vQ0, vT0, simprocAttr, evF_rens, evF_take, evF_append, evF_cell1]
          refine chk_intro (by rw [evF_len]; omega) ?_
          simp (maxSteps := 2000000) only [↓vP0, vQ0, vT0, simprocAttr, evF_rens, evF_take, evF_append, evF_cell1]
          refine chk_intro ⟨by rw [evF_len], by omega⟩ ?_
          simp (maxSteps := 2000000) only [↓vP0, vQ0, vT0, simprocAttr, evF_rens, evF_take, evF_append, evF_cell1]
          simp (disch := omega) only [wr64, wru64, wru8, tdv, tmd, fdv]
          have hn2 : A ++ numEv xb xn = allEv (l.take (i + 1)) := by rw [htk, allEv_app, hA]; simp [allEv]
          have hn3 : A.length + (numEv xb xn).length = (allEv (l.take (i + 1))).length := by rw [← hn2]; simp
          rw [hn2, hn3]
          refine ⟨i + 1, ⟨by omega, by rw [htk]; intro y hy; rcases List.mem_append.1 hy with hy | hy; exact hv y hy; simp at hy; subst hy; exact hok⟩, by omega, [], [1, 2, 5], ?_⟩
          simp (maxSteps := 2000000) only [↓vP0, vQ0, vT0, simprocAttr]
          simp only [leR, Int.natCast_add, Int.cast_ofNat_Int]
          simp [ren, rens, sg, sig, okIn, okIns, exK, leK, leF, leV, matK, objM, renO, roSame, lh, born, AObj.born, AObj.live, injOk, kindOf, rens_ints, okIns_ints, List.range, List.range.loop, mrg, mset, leF, leV, leK, evF_rens, evF_okIns, numF_rens, numF_okIns]
      · have hi' : i = l.length := by omega
        subst hi'
        rw [List.take_length] at hA hv
        have hyes : encOk kd l := ⟨hk, hll, hv⟩
        have heo := encNew_ok (zeros_ok hk (n := 48) (by omega))
        have hel : (encNew kd (zeros 48)).st.length = 48 := by simp [encNew, zeros]
        have hol : (encNew kd (zeros 48)).out.length = 0 := rfl
        simp (maxSteps := 2000000) only [↓vP0, vQ0, vT0, simprocAttr]
        refine callK_det (c_rNewEncoder kd (zeros 48) (zeros_ok hk (by omega))) [1] ?_ ?_ ?_ rfl (by simp) ?_
        · simp [ren, rens, sg, sig, okIn, okIns, exK, leK, leF, leV, matK, objM, renO, roSame, lh, born, AObj.born, AObj.live, injOk, kindOf, rens_ints, okIns_ints, List.range, List.range.loop, mrg, mset, zeros_len]
        · simp [ren, rens, sg, sig, okIn, okIns, exK, leK, leF, leV, matK, objM, renO, roSame, lh, born, AObj.born, AObj.live, injOk, kindOf, rens_ints, okIns_ints, List.range, List.range.loop, mrg, mset]
        · simp [ren, rens, sg, sig, okIn, okIns, exK, leK, leF, leV, matK, objM, renO, roSame, lh, born, AObj.born, AObj.live, injOk, kindOf, rens_ints, okIns_ints, List.range, List.range.loop, mrg, mset]
        simp (maxSteps := 2000000) only [↓vP0, vQ0, vT0, simprocAttr, rEncC_rens]
        refine loopK_ren tyok hD (α := Nat) (fun i => i ≤ A.length) (fun i => A.length - i) (fun i => [.junk, .junk, .junk, .junk, .junk, .junk, .junk, .junk, .slice 1 0 A.length, .junk, .ptr 2 0, .junk, .int .i64 i, .junk, .junk, .junk, .junk, .junk, .junk, .junk, .junk, .junk, .junk, .junk, .junk, .junk, .junk, .junk, .junk, .junk, .junk, .junk, .junk, .junk, .junk, .junk, .junk, .junk, .junk, .junk, .junk, .junk, .junk, .junk, .junk, .junk, .junk, .junk, .junk, .junk, .junk, .junk, .junk, .junk, .junk, .junk, .junk, .junk, .junk, .junk, .junk, .junk, .junk, .junk, .junk, .junk, .junk, .junk, .junk])
          (fun i => [.ro (numF l) 28, .own (evF A) 100, .own (rEncC (encAll (encNew kd (zeros 48)) (A.take i)) 3 4) 132, .own (ints .i64 (encAll (encNew kd (zeros 48)) (A.take i)).st) 3, .own (ints .u8 (encAll (encNew kd (zeros 48)) (A.take i)).out) 5]) 0
          (by omega) ⟨[3, 4, 5, 6], ?_⟩ ?_
        · simp only [leR, List.take_zero, encAll]
          simp [ren, rens, sg, sig, okIn, okIns, exK, leK, leF, leV, matK, objM, renO, roSame, lh, born, AObj.born, AObj.live, injOk, kindOf, rens_ints, okIns_ints, List.range, List.range.loop, mrg, mset, leF, leV, leK, rEncC_rens, rEncC_okIns, rEncC_inj, numF_rens, numF_okIns, evF_rens, evF_okIns, encNew, ints_nil]
        intro j hj
        obtain ⟨ho, hkd, hs, hout⟩ := encAll_takeOk heo (l := A) (by rw [hel]; exact q1) j
        have htj := encAll_take (encNew kd (zeros 48)) A j
        generalize hE : encAll (encNew kd (zeros 48)) (A.take j) = E at ho hkd hs hout htj
        simp (maxSteps := 2000000) only [↓vP0, vQ0, vT0, simprocAttr]
        (with_reducible first | refine condK_dec (fun h => ?_) (fun h => ?_) | refine condK_beq (fun h => ?_) (fun h => ?_) | refine condK_bne (fun h => ?_) (fun h => ?_) | refine condK_intro (fun h => ?_) (fun h => ?_))
        · have hj' : j < A.length := by omega
          have hgd := evF_get A j hj'
          obtain ⟨g1, g2⟩ := q1.get hj'
          have hz1 : (evF A)[j * 2]? = some (.int .i64 ((A.getD j (0, 0)).1 : Nat)) := by
            have := congrArg (fun l : List AV => l[0]?) hgd
            simpa using this
          have hz2 : (evF A)[j * 2 + 1]? = some (.int .i64 (A.getD j (0, 0)).2) := by
            have := congrArg (fun l : List AV => l[1]?) hgd
            simpa using this
          simp (maxSteps := 2000000) only [↓vP0, vQ0, vT0, simprocAttr]
          refine drawK_of tyok rfl (usL []) (fun i => .below 0) (by kernel_rfl) ?_
          simp (maxSteps := 2000000) only [↓vP0, vQ0, vT0, simprocAttr]
          refine chk_intro (by omega) ?_
          simp (maxSteps := 2000000) only [↓vP0, vQ0, vT0, simprocAttr, hz1, hz2]
          refine chk_intro (by omega) ?_
          simp (maxSteps := 2000000) only [↓vP0, vQ0, vT0, simprocAttr, hz1, hz2]
          refine callK_det (c_rPut E ho _ (by rw [hs, hel]; exact g1) _ g2 (by omega)) [2, 3, 4] ?_ ?_ ?_ rfl (by simp [rEncL, rEncM]) ?_
          · simp [ren, rens, sg, sig, okIn, okIns, exK, leK, leF, leV, matK, objM, renO, roSame, lh, born, AObj.born, AObj.live, injOk, kindOf, rens_ints, okIns_ints, List.range, List.range.loop, mrg, mset]
          · simp [ren, rens, sg, sig, okIn, okIns, exK, leK, leF, leV, matK, objM, renO, roSame, lh, born, AObj.born, AObj.live, injOk, kindOf, rens_ints, okIns_ints, List.range, List.range.loop, mrg, mset, rEncL]
          · simp [ren, rens, sg, sig, okIn, okIns, exK, leK, leF, leV, matK, objM, renO, roSame, lh, born, AObj.born, AObj.live, injOk, kindOf, rens_ints, okIns_ints, List.range, List.range.loop, mrg, mset, rEncL, rEncC_rens, rEncC_okIns, rEncC_inj]
          simp only [rEncL, rEncM]
          simp (maxSteps := 2000000) only [↓vP0, vQ0, vT0, simprocAttr, rEncC_rens]
          simp (disch := omega) only [wr64, wru64, wru8, tdv, tmd, fdv]
          rw [← htj hj']
          refine ⟨j + 1, by omega, by omega, [1, 2, 3, 5], ?_⟩
          simp only [leR, Int.natCast_add, Int.cast_ofNat_Int]
          simp [ren, rens, sg, sig, okIn, okIns, exK, leK, leF, leV, matK, objM, renO, roSame, lh, born, AObj.born, AObj.live, injOk, kindOf, rens_ints, okIns_ints, List.range, List.range.loop, mrg, mset, leF, leV, leK, rEncC_rens, rEncC_okIns, rEncC_inj, evF_rens, evF_okIns, numF_rens, numF_okIns]
        · have hj' : j = A.length := by omega
          subst hj'
          rw [List.take_length] at hE
          simp (maxSteps := 2000000) only [↓vP0, vQ0, vT0, simprocAttr]
          refine callK_det (c_rEnd E ho (by omega)) [2, 3, 4] ?_ ?_ ?_ rfl (by simp [rEncR]) ?_
          · simp [ren, rens, sg, sig, okIn, okIns, exK, leK, leF, leV, matK, objM, renO, roSame, lh, born, AObj.born, AObj.live, injOk, kindOf, rens_ints, okIns_ints, List.range, List.range.loop, mrg, mset]
          · simp [ren, rens, sg, sig, okIn, okIns, exK, leK, leF, leV, matK, objM, renO, roSame, lh, born, AObj.born, AObj.live, injOk, kindOf, rens_ints, okIns_ints, List.range, List.range.loop, mrg, mset, rEncR]
          · simp [ren, rens, sg, sig, okIn, okIns, exK, leK, leF, leV, matK, objM, renO, roSame, lh, born, AObj.born, AObj.live, injOk, kindOf, rens_ints, okIns_ints, List.range, List.range.loop, mrg, mset, rEncR, rEncC_rens, rEncC_okIns, rEncC_inj]
          simp only [rEncR]
          simp (maxSteps := 2000000) only [↓vP0, vQ0, vT0, simprocAttr, rEncC_rens]
          refine exitB_P (exit_of [5] (.tup [.slice 1 0 (encCode kd l).length, .int .i64 (encErr kd l)]) [.ro (numF l) 28, .own (ints .u8 (encCode kd l)) 5] ⟨rfl, rfl⟩ ?_ ?_ rfl ?_ ?_)
          all_goals simp [ren, rens, sg, sig, okIn, okIns, exK, leK, leF, leV, matK, objM, renO, roSame, lh, born, AObj.born, AObj.live, injOk, kindOf, rens_ints, okIns_ints, List.range, List.range.loop, mrg, mset, encCode, encErr, hyes, hA, hE, numF_rens, numF_okIns, ints_nil]
end Go.Proofs.Ytbfefpkhalegmaa
