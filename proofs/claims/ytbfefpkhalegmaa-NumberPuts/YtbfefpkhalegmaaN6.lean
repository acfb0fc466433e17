/- Contracts of Decode, of both. -/
import Derived.Test.YtbfefpkhalegmaaN5
import Derived.KernelRfl
import Derived.Test.YtbfefpkhalegmaaN1
import Derived.Test.YtbfefpkhalegmaaT1
import Derived.Below
import Derived.OpenShut
import Derived.ChangeOld
import Derived.Deep.SlicePairs

set_option linter.unusedVariables false
set_option linter.unusedSimpArgs false
namespace Go.Proofs.Ytbfefpkhalegmaa
open Go
set_option maxHeartbeats 4000000
set_option maxRecDepth 20000

/-- n numbers got from a decoder: the first error, the numbers. -/
def decRun : Nat → Dec → List (Bool × Int) → Int × List (Bool × Int) × Dec
  | 0, d, acc => (0, acc, d)
  | n + 1, d, acc => if (numGet 0 d).err ≠ 0 then ((numGet 0 d).err, [], (numGet 0 d).d) else decRun n (numGet 0 d).d (acc ++ [((numGet 0 d).none, (numGet 0 d).n)])
def decArgs (kd n : Int) : Prop := KdOk kd ∧ 0 ≤ n ∧ n ≤ 20000
instance (kd n : Int) : Decidable (decArgs kd n) := by unfold decArgs; infer_instance
def decErr (kd : Int) (code : List Int) (n : Int) : Int := if decArgs kd n then (decRun n.toNat (decNew kd (zeros 48) code) []).1 else 2
def decNums (kd : Int) (code : List Int) (n : Int) : List (Bool × Int) := if decArgs kd n then (decRun n.toNat (decNew kd (zeros 48) code) []).2.1 else []

theorem lenD_of {d0 : Dec} {base : Nat} (hb : base + 48 ≤ d0.st.length) : ∀ (k c : Nat) (d : Dec), k + c = 20 → Of d0 d → Of d0 (lenD base k c d).2.2 ∧ (lenD base k c d).2.1 ≤ 20
  | 0, c, d, h, ho => ⟨ho, by simp only [lenD]; omega⟩
  | k + 1, c, d, h, ho => by
    have ho' := ho.after (c := base + 1 + c) (by omega)
    rw [lenD_succ]
    split
    · exact ⟨ho', by simp only; omega⟩
    split
    · exact ⟨ho', by simp only; omega⟩
    · exact lenD_of hb k (c + 1) _ (by omega) ho'
theorem digD_of {d0 : Dec} {base c : Nat} (hb : base + 48 ≤ d0.st.length) (hc : c ≤ 20) : ∀ (k i : Nat) (v : Int) (d : Dec), k + i = c → Of d0 d → Of d0 (digD base c k i v d).2.2
  | 0, i, v, d, h, ho => ho
  | k + 1, i, v, d, h, ho => by
    have hct : dctx c i + 1 ≤ 48 := by simp only [dctx]; split <;> omega
    have ho' := ho.after (c := base + dctx c i) (by omega)
    rw [digD_succ]
    split
    · exact ho'
    · exact digD_of hb hc k (i + 1) _ _ (by omega) ho'
theorem numGet_ok {d0 d : Dec} {base : Nat} (hb : base + 48 ≤ d0.st.length) (ho : Of d0 d) : Of d0 (numGet base d).d := by
  have h1 := ho.after (c := base) (by omega)
  unfold numGet
  split
  · exact h1
  split
  · exact h1
  unfold numGetL
  obtain ⟨h2, h3⟩ := lenD_of hb 20 0 _ (by omega) h1
  split
  · exact h2
  unfold numGetD
  have h4 := digD_of hb h3 (lenD base 20 0 (d.after base)).2.1 0 1 _ (by omega) h2
  split
  · exact h4
  unfold numGetV
  split
  · exact h4
  split
  · exact h4
  have h5 := h4.after (c := base + 22) (by omega)
  split
  · exact h5
  · exact h5
theorem decRun_len : ∀ (n : Nat) (d : Dec) (acc : List (Bool × Int)), (decRun n d acc).2.1.length ≤ acc.length + n
  | 0, d, acc => by simp [decRun]
  | n + 1, d, acc => by
    simp only [decRun]
    split
    · simp
    · have := decRun_len n (numGet 0 d).d (acc ++ [((numGet 0 d).none, (numGet 0 d).n)])
      simp at this; omega

theorem c_pDecode (kd : Int) (code : List Int) (hby : ByOk code) (hcl : code.length ≤ 1099511627776) (n : Int) : LCall Try.prog 20 [.int .i64 kd, .slice 0 0 code.length, .int .i64 n] [.ro (ints .u8 code) 5] fun r L =>
    r = (.tup [.slice 1 0 (decNums kd code n).length, .int .i64 (decErr kd code n)]) ∧ L = [.ro (ints .u8 code) 5, .own (numF (decNums kd code n)) 28] := by
  refine lcall_of_vcB tyok Try.func20 rfl (by rfl) Try.results20 Try.ntmps20 ?_; intro C hD
  have hDD := hD
  clear hD
  by_cases hk : KdOk kd
  case neg =>
    have hno : ¬ decArgs kd n := fun h => hk h.1
    simp (maxSteps := 2000000) only [↓vP0, vQ0, vT0, simprocAttr]
    refine callK_pure (c_pNewBad kd hk 48) rfl rfl ?_
    simp (maxSteps := 2000000) only [↓vP0, vQ0, vT0, simprocAttr]
    refine exitB_of [(28, .fr 0 [0])] ?_
    simp (maxSteps := 2000000) only [↓vP0, vQ0, vT0, simprocAttr]
    refine exit_of [2] (.tup [.slice 1 0 (decNums kd code n).length, .int .i64 (decErr kd code n)]) [.ro (ints .u8 code) 5, .own (numF (decNums kd code n)) 28] ⟨rfl, rfl⟩ ?_ ?_ rfl ?_ ?_
    all_goals simp [ren, rens, sg, sig, okIn, okIns, exK, leK, leF, leV, matK, objM, renO, roSame, lh, born, AObj.born, AObj.live, injOk, kindOf, rens_ints, okIns_ints, List.range, List.range.loop, mrg, mset, decNums, decErr, hno, numF]
  case pos =>
    simp (maxSteps := 2000000) only [↓vP0, vQ0, vT0, simprocAttr]
    refine callK_det (c_pNew kd hk 48 (by omega)) [] ?_ ?_ ?_ rfl (by simp) ?_
    · simp [ren, rens, sg, sig, okIn, okIns, exK, leK, leF, leV, matK, objM, renO, roSame, lh, born, AObj.born, AObj.live, injOk, kindOf, rens_ints, okIns_ints, List.range, List.range.loop, mrg, mset]
    · simp [ren, rens, sg, sig, okIn, okIns, exK, leK, leF, leV, matK, objM, renO, roSame, lh, born, AObj.born, AObj.live, injOk, kindOf, rens_ints, okIns_ints, List.range, List.range.loop, mrg, mset]
    · simp [ren, rens, sg, sig, okIn, okIns, exK, leK, leF, leV, matK, objM, renO, roSame, lh, born, AObj.born, AObj.live, injOk, kindOf, rens_ints, okIns_ints, List.range, List.range.loop, mrg, mset]
    by_cases hn0 : n < 0
    · have e0 : decide (n < 0) = true := decide_eq_true hn0
      have hno : ¬ decArgs kd n := fun h => by have := h.2.1; omega
      simp (maxSteps := 2000000) only [↓vP0, vQ0, vT0, simprocAttr, zeros_len, e0]
      refine exitB_of [(28, .fr 0 [0])] ?_
      simp (maxSteps := 2000000) only [↓vP0, vQ0, vT0, simprocAttr]
      refine exit_of [3] (.tup [.slice 1 0 (decNums kd code n).length, .int .i64 (decErr kd code n)]) [.ro (ints .u8 code) 5, .own (numF (decNums kd code n)) 28] ⟨rfl, rfl⟩ ?_ ?_ rfl ?_ ?_
      all_goals simp [ren, rens, sg, sig, okIn, okIns, exK, leK, leF, leV, matK, objM, renO, roSame, lh, born, AObj.born, AObj.live, injOk, kindOf, rens_ints, okIns_ints, List.range, List.range.loop, mrg, mset, decNums, decErr, hno, numF]
    have e0 : decide (n < 0) = false := decide_eq_false hn0
    simp (maxSteps := 2000000) only [↓vP0, vQ0, vT0, simprocAttr, zeros_len, e0]
    (with_reducible first | refine condK_dec (fun h => ?_) (fun h => ?_) | refine condK_beq (fun h => ?_) (fun h => ?_) | refine condK_bne (fun h => ?_) (fun h => ?_) | refine condK_intro (fun h => ?_) (fun h => ?_))
    · have hno : ¬ decArgs kd n := fun h => by have := h.2.2; omega
      simp (maxSteps := 2000000) only [↓vP0, vQ0, vT0, simprocAttr]
      refine exitB_of [(28, .fr 0 [0])] ?_
      simp (maxSteps := 2000000) only [↓vP0, vQ0, vT0, simprocAttr]
      refine exit_of [3] (.tup [.slice 1 0 (decNums kd code n).length, .int .i64 (decErr kd code n)]) [.ro (ints .u8 code) 5, .own (numF (decNums kd code n)) 28] ⟨rfl, rfl⟩ ?_ ?_ rfl ?_ ?_
      all_goals simp [ren, rens, sg, sig, okIn, okIns, exK, leK, leF, leV, matK, objM, renO, roSame, lh, born, AObj.born, AObj.live, injOk, kindOf, rens_ints, okIns_ints, List.range, List.range.loop, mrg, mset, decNums, decErr, hno, numF]
    · have hyes : decArgs kd n := ⟨hk, by omega, by omega⟩
      have hz := zeros_ok hk (n := 48) (by omega)
      simp (maxSteps := 2000000) only [↓vP0, vQ0, vT0, simprocAttr]
      refine callK_det (c_pNewDecoder kd (zeros 48) code hz hby hcl) [1, 0] ?_ ?_ ?_ rfl (by simp) ?_
      · simp [ren, rens, sg, sig, okIn, okIns, exK, leK, leF, leV, matK, objM, renO, roSame, lh, born, AObj.born, AObj.live, injOk, kindOf, rens_ints, okIns_ints, List.range, List.range.loop, mrg, mset, zeros_len]
      · simp [ren, rens, sg, sig, okIn, okIns, exK, leK, leF, leV, matK, objM, renO, roSame, lh, born, AObj.born, AObj.live, injOk, kindOf, rens_ints, okIns_ints, List.range, List.range.loop, mrg, mset]
      · simp [ren, rens, sg, sig, okIn, okIns, exK, leK, leF, leV, matK, objM, renO, roSame, lh, born, AObj.born, AObj.live, injOk, kindOf, rens_ints, okIns_ints, List.range, List.range.loop, mrg, mset]
      simp (maxSteps := 2000000) only [↓vP0, vQ0, vT0, simprocAttr, pDecC_rens]
      have hd0 := decNew_ok hz hby
      have hO : Of (decNew kd (zeros 48) code) (decNew kd (zeros 48) code) := ⟨hd0, rfl, rfl, rfl⟩
      have hsl : 0 + 48 ≤ (decNew kd (zeros 48) code).st.length := by simp [decNew, zeros]
      have hcd : (decNew kd (zeros 48) code).code = code := rfl
      have hR : decErr kd code n = (decRun n.toNat (decNew kd (zeros 48) code) []).1 ∧ decNums kd code n = (decRun n.toNat (decNew kd (zeros 48) code) []).2.1 := by simp [decErr, decNums, hyes]
      generalize hD : decNew kd (zeros 48) code = D0 at hO hsl hcd hR hd0
      refine loopK_b tyok hDD (α := Nat × List (Bool × Int) × Dec) (fun l => (l.1 : Int) ≤ n ∧ Of D0 l.2.2 ∧ decRun (n.toNat - l.1) l.2.2 l.2.1 = decRun n.toNat D0 [] ∧ l.2.1.length = l.1) (fun l => n.toNat - l.1) (fun l => [.junk, .junk, .junk, .junk, .junk, .junk, .junk, .junk, .junk, .junk, .ptr 1 0, .junk, .slice 5 0 l.2.1.length, .junk, .junk, .junk, .junk, .junk, .junk, .junk, .junk, .junk, .junk, .junk, .junk, .junk, .junk, .junk, .junk, .junk, .junk, .junk, .junk, .junk, .junk, .junk, .int .i64 n, .int .i64 l.1, .junk, .junk, .junk, .junk, .junk, .junk, .junk, .junk, .junk, .junk, .junk, .junk, .junk, .junk, .junk])
        (fun l => [.ro (ints .u8 code) 5, .own (pDecC l.2.2 2 3) 154, .own (ints .i64 l.2.2.st) 3, .own (ints .u8 code) 5, .dead, .own (numF l.2.1) 28]) (0, [], D0) ⟨by simp; omega, hO, rfl, rfl⟩ ⟨[(28, .fr 12 [])], [3, 4, 5, 1, 6], ?_⟩ ?_
      · simp (maxSteps := 2000000) only [↓vP0, vQ0, vT0, simprocAttr]
        simp only [leR, ← hD]
        have hs0 : (decNew kd (zeros 48) code).st = zeros 48 := rfl
        simp [ren, rens, sg, sig, okIn, okIns, exK, leK, leF, leV, matK, objM, renO, roSame, lh, born, AObj.born, AObj.live, injOk, kindOf, rens_ints, okIns_ints, List.range, List.range.loop, mrg, mset, leF, leV, leK, numF, pDecC_rens, pDecC_okIns, pDecC_inj, hs0]
      rintro ⟨i, acc, E⟩ ⟨hi, hE, hrun, hal⟩
      simp only at hi hE hrun hal
      have hEc : E.code = code := hE.2.2.2.trans hcd
      simp (maxSteps := 2000000) only [↓vP0, vQ0, vT0, simprocAttr, pDecC_rens]
      (with_reducible first | refine condK_dec (fun h => ?_) (fun h => ?_) | refine condK_beq (fun h => ?_) (fun h => ?_) | refine condK_bne (fun h => ?_) (fun h => ?_) | refine condK_intro (fun h => ?_) (fun h => ?_))
      · obtain ⟨k, hk'⟩ : ∃ k, n.toNat - i = k + 1 := ⟨n.toNat - i - 1, by omega⟩
        rw [hk', decRun] at hrun
        simp (maxSteps := 2000000) only [↓vP0, vQ0, vT0, simprocAttr, pDecC_rens]
        refine callK_det (c_get E hE.1 0 (by have := hE.2.2.1; omega) (by rw [hEc]; exact hcl)) [1, 2, 3] ?_ ?_ ?_ rfl (by simp [pDecL]) ?_
        · simp [ren, rens, sg, sig, okIn, okIns, exK, leK, leF, leV, matK, objM, renO, roSame, lh, born, AObj.born, AObj.live, injOk, kindOf, rens_ints, okIns_ints, List.range, List.range.loop, mrg, mset]
        · simp [ren, rens, sg, sig, okIn, okIns, exK, leK, leF, leV, matK, objM, renO, roSame, lh, born, AObj.born, AObj.live, injOk, kindOf, rens_ints, okIns_ints, List.range, List.range.loop, mrg, mset, pDecL]
        · simp [ren, rens, sg, sig, okIn, okIns, exK, leK, leF, leV, matK, objM, renO, roSame, lh, born, AObj.born, AObj.live, injOk, kindOf, rens_ints, okIns_ints, List.range, List.range.loop, mrg, mset, pDecL, pDecC_rens, pDecC_okIns, pDecC_inj, hEc]
        have hE' := numGet_ok hsl hE
        have hnl := numF_len acc
        generalize hG : numGet 0 E = R at hrun hE'
        obtain ⟨rn, rv, re, rd⟩ := R
        simp only at hrun hE'
        simp only [pDecL]
        simp (maxSteps := 2000000) only [↓vP0, vQ0, vT0, simprocAttr, pDecC_rens]
        (with_reducible first | refine condK_dec (fun h => ?_) (fun h => ?_) | refine condK_beq (fun h => ?_) (fun h => ?_) | refine condK_bne (fun h => ?_) (fun h => ?_) | refine condK_intro (fun h => ?_) (fun h => ?_))
        · rw [if_pos h] at hrun
          rw [← hrun] at hR
          obtain ⟨hR1, hR2⟩ := hR
          simp (maxSteps := 2000000) only [↓vP0, vQ0, vT0, simprocAttr, pDecC_rens]
          refine exitB_of [(28, .fr 0 [0])] ?_
          simp (maxSteps := 2000000) only [↓vP0, vQ0, vT0, simprocAttr]
          refine exit_of [7] (.tup [.slice 1 0 (decNums kd code n).length, .int .i64 (decErr kd code n)]) [.ro (ints .u8 code) 5, .own (numF (decNums kd code n)) 28] ⟨rfl, rfl⟩ ?_ ?_ rfl ?_ ?_
          all_goals simp [ren, rens, sg, sig, okIn, okIns, exK, leK, leF, leV, matK, objM, renO, roSame, lh, born, AObj.born, AObj.live, injOk, kindOf, rens_ints, okIns_ints, List.range, List.range.loop, mrg, mset, hR1, hR2, numF]
        · rw [if_neg (by omega)] at hrun
          simp (maxSteps := 2000000) only [↓vP0, vQ0, vT0, simprocAttr, pDecC_rens, numF_snoc]
          refine chk_intro (by rw [hnl]; omega) ?_
          simp (maxSteps := 2000000) only [↓vP0, vQ0, vT0, simprocAttr, pDecC_rens, numF_snoc]
          simp (disch := omega) only [wr64, wru64, wru8, tdv, tmd, fdv]
          have h64 : (acc.length : Int) + 1 = ((acc ++ [(rn, rv)]).length : Int) := by simp
          refine ⟨(i + 1, acc ++ [(rn, rv)], rd), ⟨by simp only; omega, hE', by rw [← hrun]; simp only; congr 1; omega, by simp [hal]⟩, by simp only; omega, [], [1, 2, 3, 4, 8], ?_⟩
          simp (maxSteps := 2000000) only [↓vP0, vQ0, vT0, simprocAttr]
          simp only [leR, Int.natCast_add, Int.cast_ofNat_Int]
          simp [ren, rens, sg, sig, okIn, okIns, exK, leK, leF, leV, matK, objM, renO, roSame, lh, born, AObj.born, AObj.live, injOk, kindOf, rens_ints, okIns_ints, List.range, List.range.loop, mrg, mset, leF, leV, leK, pDecC_rens, pDecC_okIns, pDecC_inj, numF_rens, numF_okIns]
      · have hin : n.toNat - i = 0 := by omega
        rw [hin, decRun] at hrun
        rw [← hrun] at hR
        obtain ⟨hR1, hR2⟩ := hR
        simp (maxSteps := 2000000) only [↓vP0, vQ0, vT0, simprocAttr]
        refine exitB_P (exit_of [5] (.tup [.slice 1 0 (decNums kd code n).length, .int .i64 (decErr kd code n)]) [.ro (ints .u8 code) 5, .own (numF (decNums kd code n)) 28] ⟨rfl, rfl⟩ ?_ ?_ rfl ?_ ?_)
        all_goals simp [ren, rens, sg, sig, okIn, okIns, exK, leK, leF, leV, matK, objM, renO, roSame, lh, born, AObj.born, AObj.live, injOk, kindOf, rens_ints, okIns_ints, List.range, List.range.loop, mrg, mset, hR1, hR2, numF_rens, numF_okIns]
theorem c_rDecode (kd : Int) (code : List Int) (hby : ByOk code) (hcl : code.length ≤ 1099511627776) (n : Int) : LCall Try.prog 23 [.int .i64 kd, .slice 0 0 code.length, .int .i64 n] [.ro (ints .u8 code) 5] fun r L =>
    r = (.tup [.slice 1 0 (decNums kd code n).length, .int .i64 (decErr kd code n)]) ∧ L = [.ro (ints .u8 code) 5, .own (numF (decNums kd code n)) 28] := by
  refine lcall_of_vcB tyok Try.func23 rfl (by rfl) Try.results23 Try.ntmps23 ?_; intro C hD
  have hDD := hD
  clear hD
  by_cases hk : KdOk kd
  case neg =>
    have hno : ¬ decArgs kd n := fun h => hk h.1
    simp (maxSteps := 2000000) only [↓vP0, vQ0, vT0, simprocAttr]
    refine callK_pure (c_rNewBad kd hk 48) rfl rfl ?_
    simp (maxSteps := 2000000) only [↓vP0, vQ0, vT0, simprocAttr]
    refine exitB_of [(28, .fr 0 [0])] ?_
    simp (maxSteps := 2000000) only [↓vP0, vQ0, vT0, simprocAttr]
    refine exit_of [2] (.tup [.slice 1 0 (decNums kd code n).length, .int .i64 (decErr kd code n)]) [.ro (ints .u8 code) 5, .own (numF (decNums kd code n)) 28] ⟨rfl, rfl⟩ ?_ ?_ rfl ?_ ?_
    all_goals simp [ren, rens, sg, sig, okIn, okIns, exK, leK, leF, leV, matK, objM, renO, roSame, lh, born, AObj.born, AObj.live, injOk, kindOf, rens_ints, okIns_ints, List.range, List.range.loop, mrg, mset, decNums, decErr, hno, numF]
  case pos =>
    simp (maxSteps := 2000000) only [↓vP0, vQ0, vT0, simprocAttr]
    refine callK_det (c_rNew kd hk 48 (by omega)) [] ?_ ?_ ?_ rfl (by simp) ?_
    · simp [ren, rens, sg, sig, okIn, okIns, exK, leK, leF, leV, matK, objM, renO, roSame, lh, born, AObj.born, AObj.live, injOk, kindOf, rens_ints, okIns_ints, List.range, List.range.loop, mrg, mset]
    · simp [ren, rens, sg, sig, okIn, okIns, exK, leK, leF, leV, matK, objM, renO, roSame, lh, born, AObj.born, AObj.live, injOk, kindOf, rens_ints, okIns_ints, List.range, List.range.loop, mrg, mset]
    · simp [ren, rens, sg, sig, okIn, okIns, exK, leK, leF, leV, matK, objM, renO, roSame, lh, born, AObj.born, AObj.live, injOk, kindOf, rens_ints, okIns_ints, List.range, List.range.loop, mrg, mset]
    by_cases hn0 : n < 0
    · have e0 : decide (n < 0) = true := decide_eq_true hn0
      have hno : ¬ decArgs kd n := fun h => by have := h.2.1; omega
      simp (maxSteps := 2000000) only [↓vP0, vQ0, vT0, simprocAttr, zeros_len, e0]
      refine exitB_of [(28, .fr 0 [0])] ?_
      simp (maxSteps := 2000000) only [↓vP0, vQ0, vT0, simprocAttr]
      refine exit_of [3] (.tup [.slice 1 0 (decNums kd code n).length, .int .i64 (decErr kd code n)]) [.ro (ints .u8 code) 5, .own (numF (decNums kd code n)) 28] ⟨rfl, rfl⟩ ?_ ?_ rfl ?_ ?_
      all_goals simp [ren, rens, sg, sig, okIn, okIns, exK, leK, leF, leV, matK, objM, renO, roSame, lh, born, AObj.born, AObj.live, injOk, kindOf, rens_ints, okIns_ints, List.range, List.range.loop, mrg, mset, decNums, decErr, hno, numF]
    have e0 : decide (n < 0) = false := decide_eq_false hn0
    simp (maxSteps := 2000000) only [↓vP0, vQ0, vT0, simprocAttr, zeros_len, e0]
    (with_reducible first | refine condK_dec (fun h => ?_) (fun h => ?_) | refine condK_beq (fun h => ?_) (fun h => ?_) | refine condK_bne (fun h => ?_) (fun h => ?_) | refine condK_intro (fun h => ?_) (fun h => ?_))
    · have hno : ¬ decArgs kd n := fun h => by have := h.2.2; omega
      simp (maxSteps := 2000000) only [↓vP0, vQ0, vT0, simprocAttr]
      refine exitB_of [(28, .fr 0 [0])] ?_
      simp (maxSteps := 2000000) only [↓vP0, vQ0, vT0, simprocAttr]
      refine exit_of [3] (.tup [.slice 1 0 (decNums kd code n).length, .int .i64 (decErr kd code n)]) [.ro (ints .u8 code) 5, .own (numF (decNums kd code n)) 28] ⟨rfl, rfl⟩ ?_ ?_ rfl ?_ ?_
      all_goals simp [ren, rens, sg, sig, okIn, okIns, exK, leK, leF, leV, matK, objM, renO, roSame, lh, born, AObj.born, AObj.live, injOk, kindOf, rens_ints, okIns_ints, List.range, List.range.loop, mrg, mset, decNums, decErr, hno, numF]
    · have hyes : decArgs kd n := ⟨hk, by omega, by omega⟩
      have hz := zeros_ok hk (n := 48) (by omega)
      simp (maxSteps := 2000000) only [↓vP0, vQ0, vT0, simprocAttr]
      refine callK_det (c_rNewDecoder kd (zeros 48) code hz hby hcl) [1, 0] ?_ ?_ ?_ rfl (by simp) ?_
      · simp [ren, rens, sg, sig, okIn, okIns, exK, leK, leF, leV, matK, objM, renO, roSame, lh, born, AObj.born, AObj.live, injOk, kindOf, rens_ints, okIns_ints, List.range, List.range.loop, mrg, mset, zeros_len]
      · simp [ren, rens, sg, sig, okIn, okIns, exK, leK, leF, leV, matK, objM, renO, roSame, lh, born, AObj.born, AObj.live, injOk, kindOf, rens_ints, okIns_ints, List.range, List.range.loop, mrg, mset]
      · simp [ren, rens, sg, sig, okIn, okIns, exK, leK, leF, leV, matK, objM, renO, roSame, lh, born, AObj.born, AObj.live, injOk, kindOf, rens_ints, okIns_ints, List.range, List.range.loop, mrg, mset]
      simp (maxSteps := 2000000) only [↓vP0, vQ0, vT0, simprocAttr, rDecC_rens]
      have hd0 := decNew_ok hz hby
      have hO : Of (decNew kd (zeros 48) code) (decNew kd (zeros 48) code) := ⟨hd0, rfl, rfl, rfl⟩
      have hsl : 0 + 48 ≤ (decNew kd (zeros 48) code).st.length := by simp [decNew, zeros]
      have hcd : (decNew kd (zeros 48) code).code = code := rfl
      have hR : decErr kd code n = (decRun n.toNat (decNew kd (zeros 48) code) []).1 ∧ decNums kd code n = (decRun n.toNat (decNew kd (zeros 48) code) []).2.1 := by simp [decErr, decNums, hyes]
      generalize hD : decNew kd (zeros 48) code = D0 at hO hsl hcd hR hd0
      refine loopK_b tyok hDD (α := Nat × List (Bool × Int) × Dec) (fun l => (l.1 : Int) ≤ n ∧ Of D0 l.2.2 ∧ decRun (n.toNat - l.1) l.2.2 l.2.1 = decRun n.toNat D0 [] ∧ l.2.1.length = l.1) (fun l => n.toNat - l.1) (fun l => [.junk, .junk, .int .i64 n, .junk, .junk, .junk, .junk, .junk, .junk, .junk, .ptr 1 0, .junk, .slice 5 0 l.2.1.length, .int .i64 l.1, .junk, .junk, .junk, .junk, .junk, .junk, .junk, .junk, .junk, .junk, .junk, .junk, .junk, .junk, .junk, .junk, .junk, .junk, .junk, .junk, .junk, .junk, .junk, .junk, .junk, .junk, .junk, .junk, .junk, .junk, .junk, .junk, .junk, .junk, .junk, .junk, .junk, .junk, .junk, .junk, .junk])
        (fun l => [.ro (ints .u8 code) 5, .own (rDecC l.2.2 2 3) 158, .own (ints .i64 l.2.2.st) 3, .own (ints .u8 code) 5, .dead, .own (numF l.2.1) 28]) (0, [], D0) ⟨by simp; omega, hO, rfl, rfl⟩ ⟨[(28, .fr 12 [])], [3, 4, 5, 1, 6], ?_⟩ ?_
      · simp (maxSteps := 2000000) only [↓vP0, vQ0, vT0, simprocAttr]
        simp only [leR, ← hD]
        have hs0 : (decNew kd (zeros 48) code).st = zeros 48 := rfl
        simp [ren, rens, sg, sig, okIn, okIns, exK, leK, leF, leV, matK, objM, renO, roSame, lh, born, AObj.born, AObj.live, injOk, kindOf, rens_ints, okIns_ints, List.range, List.range.loop, mrg, mset, leF, leV, leK, numF, rDecC_rens, rDecC_okIns, rDecC_inj, hs0]
      rintro ⟨i, acc, E⟩ ⟨hi, hE, hrun, hal⟩
      simp only at hi hE hrun hal
      have hEc : E.code = code := hE.2.2.2.trans hcd
      simp (maxSteps := 2000000) only [↓vP0, vQ0, vT0, simprocAttr, rDecC_rens]
      (with_reducible first | refine condK_dec (fun h => ?_) (fun h => ?_) | refine condK_beq (fun h => ?_) (fun h => ?_) | refine condK_bne (fun h => ?_) (fun h => ?_) | refine condK_intro (fun h => ?_) (fun h => ?_))
      · obtain ⟨k, hk'⟩ : ∃ k, n.toNat - i = k + 1 := ⟨n.toNat - i - 1, by omega⟩
        rw [hk', decRun] at hrun
        simp (maxSteps := 2000000) only [↓vP0, vQ0, vT0, simprocAttr, rDecC_rens]
        refine callK_det (c_rNGet E hE.1 0 (by have := hE.2.2.1; omega) (by rw [hEc]; exact hcl)) [1, 2, 3] ?_ ?_ ?_ rfl (by simp [rDecL]) ?_
        · simp [ren, rens, sg, sig, okIn, okIns, exK, leK, leF, leV, matK, objM, renO, roSame, lh, born, AObj.born, AObj.live, injOk, kindOf, rens_ints, okIns_ints, List.range, List.range.loop, mrg, mset]
        · simp [ren, rens, sg, sig, okIn, okIns, exK, leK, leF, leV, matK, objM, renO, roSame, lh, born, AObj.born, AObj.live, injOk, kindOf, rens_ints, okIns_ints, List.range, List.range.loop, mrg, mset, rDecL]
        · simp [ren, rens, sg, sig, okIn, okIns, exK, leK, leF, leV, matK, objM, renO, roSame, lh, born, AObj.born, AObj.live, injOk, kindOf, rens_ints, okIns_ints, List.range, List.range.loop, mrg, mset, rDecL, rDecC_rens, rDecC_okIns, rDecC_inj, hEc]
        have hE' := numGet_ok hsl hE
        have hnl := numF_len acc
        generalize hG : numGet 0 E = R at hrun hE'
        obtain ⟨rn, rv, re, rd⟩ := R
        simp only at hrun hE'
        simp only [rDecL]
        simp (maxSteps := 2000000) only [↓vP0, vQ0, vT0, simprocAttr, rDecC_rens]
        (with_reducible first | refine condK_dec (fun h => ?_) (fun h => ?_) | refine condK_beq (fun h => ?_) (fun h => ?_) | refine condK_bne (fun h => ?_) (fun h => ?_) | refine condK_intro (fun h => ?_) (fun h => ?_))
        · rw [if_pos h] at hrun
          rw [← hrun] at hR
          obtain ⟨hR1, hR2⟩ := hR
          simp (maxSteps := 2000000) only [↓vP0, vQ0, vT0, simprocAttr, rDecC_rens]
          refine exitB_of [(28, .fr 0 [0])] ?_
          simp (maxSteps := 2000000) only [↓vP0, vQ0, vT0, simprocAttr]
          refine exit_of [7] (.tup [.slice 1 0 (decNums kd code n).length, .int .i64 (decErr kd code n)]) [.ro (ints .u8 code) 5, .own (numF (decNums kd code n)) 28] ⟨rfl, rfl⟩ ?_ ?_ rfl ?_ ?_
          all_goals simp [ren, rens, sg, sig, okIn, okIns, exK, leK, leF, leV, matK, objM, renO, roSame, lh, born, AObj.born, AObj.live, injOk, kindOf, rens_ints, okIns_ints, List.range, List.range.loop, mrg, mset, hR1, hR2, numF]
        · rw [if_neg (by omega)] at hrun
          simp (maxSteps := 2000000) only [↓vP0, vQ0, vT0, simprocAttr, rDecC_rens, numF_snoc]
          refine chk_intro (by rw [hnl]; omega) ?_
          simp (maxSteps := 2000000) only [↓vP0, vQ0, vT0, simprocAttr, rDecC_rens, numF_snoc]
          simp (disch := omega) only [wr64, wru64, wru8, tdv, tmd, fdv]
          have h64 : (acc.length : Int) + 1 = ((acc ++ [(rn, rv)]).length : Int) := by simp
          refine ⟨(i + 1, acc ++ [(rn, rv)], rd), ⟨by simp only; omega, hE', by rw [← hrun]; simp only; congr 1; omega, by simp [hal]⟩, by simp only; omega, [], [1, 2, 3, 4, 8], ?_⟩
          simp (maxSteps := 2000000) only [↓vP0, vQ0, vT0, simprocAttr]
          simp only [leR, Int.natCast_add, Int.cast_ofNat_Int]
          simp [ren, rens, sg, sig, okIn, okIns, exK, leK, leF, leV, matK, objM, renO, roSame, lh, born, AObj.born, AObj.live, injOk, kindOf, rens_ints, okIns_ints, List.range, List.range.loop, mrg, mset, leF, leV, leK, rDecC_rens, rDecC_okIns, rDecC_inj, numF_rens, numF_okIns]
      · have hin : n.toNat - i = 0 := by omega
        rw [hin, decRun] at hrun
        rw [← hrun] at hR
        obtain ⟨hR1, hR2⟩ := hR
        simp (maxSteps := 2000000) only [↓vP0, vQ0, vT0, simprocAttr]
        refine exitB_P (exit_of [5] (.tup [.slice 1 0 (decNums kd code n).length, .int .i64 (decErr kd code n)]) [.ro (ints .u8 code) 5, .own (numF (decNums kd code n)) 28] ⟨rfl, rfl⟩ ?_ ?_ rfl ?_ ?_)
        all_goals simp [ren, rens, sg, sig, okIn, okIns, exK, leK, leF, leV, matK, objM, renO, roSame, lh, born, AObj.born, AObj.live, injOk, kindOf, rens_ints, okIns_ints, List.range, List.range.loop, mrg, mset, hR1, hR2, numF_rens, numF_okIns]
end Go.Proofs.Ytbfefpkhalegmaa

set_option linter.unusedVariables false
set_option linter.unusedSimpArgs false
namespace Go.Proofs.Ytbfefpkhalegmaa
open Go
set_option maxHeartbeats 4000000
set_option maxRecDepth 20000

theorem eqNum : eqOkN Try.prog (tyOf Try.prog) 28 [false, true] = true := by kernel_rfl
theorem eqEvent : eqOkN Try.prog (tyOf Try.prog) 100 [true, true] = true := by kernel_rfl


theorem c_Same (l m : List (Bool × Int)) (hl : l.length ≤ 1099511627776) (hm : m.length ≤ 1099511627776) : LCall Try.prog 21 [.slice 0 0 l.length, .slice 1 0 m.length] [.ro (numF l) 28, .ro (numF m) 28] fun r L =>
    r = .bool (decide (l = m)) ∧ L = [.ro (numF l) 28, .ro (numF m) 28] := by
  have hkeep : keepL 2 [AObj.ro (numF l) 28, .ro (numF m) 28] [AObj.ro (numF l) 28, .ro (numF m) 28] := ⟨⟨rfl, by rw [numF_okIns]; trivial⟩, ⟨rfl, by rw [numF_okIns]; trivial⟩, trivial⟩
  refine lcall_of_vc tyok Try.func21 rfl (by rfl) Try.results21 Try.ntmps21 ?_; intro C hD
  simp (maxSteps := 2000000) only [↓vP0, vQ0, vT0, simprocAttr]
  (with_reducible first | refine condK_dec (fun h => ?_) (fun h => ?_) | refine condK_beq (fun h => ?_) (fun h => ?_) | refine condK_bne (fun h => ?_) (fun h => ?_) | refine condK_intro (fun h => ?_) (fun h => ?_))
  · have hne : l ≠ m := fun e => by subst e; exact h rfl
    simp (maxSteps := 2000000) only [↓vP0, vQ0, vT0, simprocAttr]
    exact exit_keep0 ⟨by rw [decide_eq_false hne], rfl⟩ trivial hkeep
  · have hlen : l.length = m.length := by omega
    simp (maxSteps := 2000000) only [↓vP0, vQ0, vT0, simprocAttr]
    refine loopK_of tyok hD (α := Nat) (fun i => i ≤ l.length ∧ l.take i = m.take i) (fun i => l.length - i) (fun i => [.slice 0 0 l.length, .slice 1 0 m.length, .junk, .junk, .junk, .int .i64 i, .junk, .junk, .junk, .junk, .junk, .junk, .junk, .junk, .junk, .junk, .junk, .junk, .junk, .junk, .junk, .junk, .junk, .junk, .junk, .junk])
      (fun i => [.ro (numF l) 28, .ro (numF m) 28]) 0 ⟨by omega, by simp⟩ ?_ ?_
    · refine ⟨by simp [leF, leV], ⟨[], by simp⟩, by simp, by simp [okIns, okIn], by simp [AObj.born, okIns, okIn, AObj.cells, numF_okIns]⟩
    rintro i ⟨hi, htk⟩
    simp (maxSteps := 2000000) only [↓vP0, vQ0, vT0, simprocAttr]
    (with_reducible first | refine condK_dec (fun h => ?_) (fun h => ?_) | refine condK_beq (fun h => ?_) (fun h => ?_) | refine condK_bne (fun h => ?_) (fun h => ?_) | refine condK_intro (fun h => ?_) (fun h => ?_))
    · have hil : i < l.length := by omega
      have him : i < m.length := by omega
      have g1 := numF_get l i hil
      have g2 := numF_get m i him
      simp (maxSteps := 2000000) only [↓vP0, vQ0, vT0, simprocAttr]
      refine drawK_of tyok rfl (usL []) (fun i => .below 0) (by kernel_rfl) ?_
      simp (maxSteps := 2000000) only [↓vP0, vQ0, vT0, simprocAttr]
      refine chk_intro (by omega) ?_
      simp (maxSteps := 2000000) only [↓vP0, vQ0, vT0, simprocAttr]
      refine chk_intro (by rw [numF_len]; omega) ?_
      simp (maxSteps := 2000000) only [↓vP0, vQ0, vT0, simprocAttr, g1]
      refine chk_intro (by omega) ?_
      simp (maxSteps := 2000000) only [↓vP0, vQ0, vT0, simprocAttr, g1, g2]
      refine chk_intro (by rw [numF_len]; omega) ?_
      simp (maxSteps := 2000000) only [↓vP0, vQ0, vT0, simprocAttr, g1, g2]
      refine chk_intro eqNum ?_
      simp (maxSteps := 2000000) only [↓vP0, vQ0, vT0, simprocAttr]
      generalize hx : l.getD i (false, 0) = x at *
      generalize hy : m.getD i (false, 0) = y at *
      obtain ⟨a, b⟩ := x
      obtain ⟨a', b'⟩ := y
      by_cases he : a = a' ∧ b = b'
      · obtain ⟨rfl, rfl⟩ := he
        simp (maxSteps := 2000000) only [↓vP0, vQ0, vT0, simprocAttr]
        simp (disch := omega) only [wr64, wru64, wru8, tdv, tmd, fdv]
        refine ⟨i + 1, ⟨by omega, take_eq_of htk hil him (hx.trans hy.symm)⟩, by omega, ?_⟩
        simp only [Int.natCast_add, Int.cast_ofNat_Int]
        refine ⟨by simp [leF, leV], ⟨[], by simp⟩, by simp, by simp [okIns, okIn], by simp [AObj.born, okIns, okIn, AObj.cells, numF_okIns]⟩
      · have hb : ((a == a') && (b == b')) = false := by
          simp only [Bool.and_eq_false_iff, beq_eq_false_iff_ne, ne_eq]
          by_cases h1 : a = a'
          · right; intro h2; exact he ⟨h1, h2⟩
          · exact .inl h1
        have hne : l ≠ m := fun e => by
          subst e; rw [hx] at hy; injection hy with e1 e2; exact he ⟨e1, e2⟩
        simp (maxSteps := 2000000) only [↓vP0, vQ0, vT0, simprocAttr, hb]
        exact exit_keep0 ⟨by rw [decide_eq_false hne], rfl⟩ trivial hkeep
    · have hil : i = l.length := by omega
      subst hil
      have he : l = m := by rw [List.take_length, hlen, List.take_length] at htk; exact htk
      simp (maxSteps := 2000000) only [↓vP0, vQ0, vT0, simprocAttr]
      exact exit_keep0 ⟨by rw [decide_eq_true he], rfl⟩ trivial hkeep

theorem c_pNEvents (base : Nat) (hb : base ≤ 8144) (none : Bool) (n : Int) (hn : NumOk none n) : LCall Try.prog 67 [.int .i64 base, numV none n] [] fun r L =>
    r = .tup [.slice 0 0 (numEv none n).length, .int .i64 0] ∧ L = [.own (evF (mv base (numEv none n))) 100] := by
  have e0 : decide ((base : Int) < 0) = false := decide_eq_false (by omega)
  have e1 : decide ((8144 : Int) < (base : Int)) = false := decide_eq_false (by omega)
  refine lcall_of_vc tyok Try.func67 rfl (by rfl) Try.results67 Try.ntmps67 ?_; intro C hD
  simp (maxSteps := 2000000) only [↓vP0, vQ0, vT0, simprocAttr]
  refine callK_pure (c_pNumValid none n) rfl rfl ?_
  rw [(numB_iff _ _).2 hn]
  simp (maxSteps := 2000000) only [↓vP0, vQ0, vT0, simprocAttr, e0, e1]
  refine callK_det (c_pEvents base (by omega) none n hn) [] ?_ ?_ ?_ rfl (by simp) ?_
  · simp [ren, rens, sg, sig, okIn, okIns, exK, leK, leF, leV, matK, objM, renO, roSame, lh, born, AObj.born, AObj.live, injOk, kindOf, rens_ints, okIns_ints, List.range, List.range.loop, mrg, mset]
  · simp [ren, rens, sg, sig, okIn, okIns, exK, leK, leF, leV, matK, objM, renO, roSame, lh, born, AObj.born, AObj.live, injOk, kindOf, rens_ints, okIns_ints, List.range, List.range.loop, mrg, mset]
  · simp [ren, rens, sg, sig, okIn, okIns, exK, leK, leF, leV, matK, objM, renO, roSame, lh, born, AObj.born, AObj.live, injOk, kindOf, rens_ints, okIns_ints, List.range, List.range.loop, mrg, mset]
  simp (maxSteps := 2000000) only [↓vP0, vQ0, vT0, simprocAttr, evF_rens]
  refine exit_of [1] (.tup [.slice 0 0 (numEv none n).length, .int .i64 0]) [.own (evF (mv base (numEv none n))) 100] ⟨rfl, rfl⟩ ?_ ?_ rfl ?_ ?_
  all_goals simp [ren, rens, sg, sig, okIn, okIns, exK, leK, leF, leV, matK, objM, renO, roSame, lh, born, AObj.born, AObj.live, injOk, kindOf, rens_ints, okIns_ints, List.range, List.range.loop, mrg, mset, evF_rens, evF_okIns]

theorem c_SameEvents (l : List (Nat × Int)) (hl : l.length ≤ 1099511627776) : LCall Try.prog 68 [.slice 0 0 l.length, .slice 1 0 l.length] [.ro (evF l) 100, .ro (evF l) 100] fun r L =>
    r = .bool true ∧ L = [.ro (evF l) 100, .ro (evF l) 100] := by
  have hkeep : keepL 2 [AObj.ro (evF l) 100, .ro (evF l) 100] [AObj.ro (evF l) 100, .ro (evF l) 100] := ⟨⟨rfl, by rw [evF_okIns]; trivial⟩, ⟨rfl, by rw [evF_okIns]; trivial⟩, trivial⟩
  refine lcall_of_vc tyok Try.func68 rfl (by rfl) Try.results68 Try.ntmps68 ?_; intro C hD
  simp (maxSteps := 2000000) only [↓vP0, vQ0, vT0, simprocAttr]
  refine loopK_of tyok hD (α := Nat) (fun i => i ≤ l.length) (fun i => l.length - i) (fun i => [.slice 0 0 l.length, .slice 1 0 l.length, .junk, .junk, .junk, .int .i64 i, .junk, .junk, .junk, .junk, .junk, .junk, .junk, .junk, .junk, .junk, .junk, .junk, .junk, .junk, .junk, .junk, .junk, .junk, .junk, .junk])
    (fun i => [.ro (evF l) 100, .ro (evF l) 100]) 0 (by omega) ?_ ?_
  · refine ⟨by simp [leF, leV], ⟨[], by simp⟩, by simp, by simp [okIns, okIn], by simp [AObj.born, okIns, okIn, AObj.cells, evF_okIns]⟩
  intro i hi
  simp (maxSteps := 2000000) only [↓vP0, vQ0, vT0, simprocAttr]
  (with_reducible first | refine condK_dec (fun h => ?_) (fun h => ?_) | refine condK_beq (fun h => ?_) (fun h => ?_) | refine condK_bne (fun h => ?_) (fun h => ?_) | refine condK_intro (fun h => ?_) (fun h => ?_))
  · have hil : i < l.length := by omega
    have g1 := evF_get l i hil
    simp (maxSteps := 2000000) only [↓vP0, vQ0, vT0, simprocAttr]
    refine drawK_of tyok rfl (usL []) (fun i => .below 0) (by kernel_rfl) ?_
    simp (maxSteps := 2000000) only [↓vP0, vQ0, vT0, simprocAttr]
    refine chk_intro (by omega) ?_
    simp (maxSteps := 2000000) only [↓vP0, vQ0, vT0, simprocAttr]
    refine chk_intro (by rw [evF_len]; omega) ?_
    simp (maxSteps := 2000000) only [↓vP0, vQ0, vT0, simprocAttr, g1]
    refine chk_intro (by omega) ?_
    simp (maxSteps := 2000000) only [↓vP0, vQ0, vT0, simprocAttr, g1]
    refine chk_intro (by rw [evF_len]; omega) ?_
    simp (maxSteps := 2000000) only [↓vP0, vQ0, vT0, simprocAttr, g1]
    refine chk_intro eqEvent ?_
    simp (maxSteps := 2000000) only [↓vP0, vQ0, vT0, simprocAttr]
    simp (disch := omega) only [wr64, wru64, wru8, tdv, tmd, fdv]
    refine ⟨i + 1, by omega, by omega, ?_⟩
    simp only [Int.natCast_add, Int.cast_ofNat_Int]
    refine ⟨by simp [leF, leV], ⟨[], by simp⟩, by simp, by simp [okIns, okIn], by simp [AObj.born, okIns, okIn, AObj.cells, evF_okIns]⟩
  · simp (maxSteps := 2000000) only [↓vP0, vQ0, vT0, simprocAttr]
    exact exit_keep0 ⟨rfl, rfl⟩ trivial hkeep

theorem c_Sane : LCall Try.prog 15 [] [] fun r L => r = .bool true ∧ L = [] := by
  have hev : numEv false 2 = [(0, 0), (1, 1), (2, 0), (24, 1), (22, 0)] := by decide
  refine lcall_of_vc tyok Try.func15 rfl (by rfl) Try.results15 Try.ntmps15 ?_; intro C hD
  simp (maxSteps := 2000000) only [↓vP0, vQ0, vT0, simprocAttr]
  refine callK_det (c_pNEvents 0 (by omega) false 2 (by simp [NumOk])) [] ?_ ?_ ?_ rfl (by simp) ?_
  · simp [ren, rens, sg, sig, okIn, okIns, exK, leK, leF, leV, matK, objM, renO, roSame, lh, born, AObj.born, AObj.live, injOk, kindOf, rens_ints, okIns_ints, List.range, List.range.loop, mrg, mset]
  · simp [ren, rens, sg, sig, okIn, okIns, exK, leK, leF, leV, matK, objM, renO, roSame, lh, born, AObj.born, AObj.live, injOk, kindOf, rens_ints, okIns_ints, List.range, List.range.loop, mrg, mset]
  · simp [ren, rens, sg, sig, okIn, okIns, exK, leK, leF, leV, matK, objM, renO, roSame, lh, born, AObj.born, AObj.live, injOk, kindOf, rens_ints, okIns_ints, List.range, List.range.loop, mrg, mset]
  rw [mv_zero, hev]
  simp (maxSteps := 2000000) only [↓vP0, vQ0, vT0, simprocAttr, evF_rens]
  refine callK_read (c_SameEvents [(0, 0), (1, 1), (2, 0), (24, 1), (22, 0)] (by simp)) [0, 1] ?_ ?_ ?_ rfl ?_
  · simp [ren, rens, sg, sig, okIn, okIns, exK, leK, leF, leV, matK, objM, renO, roSame, lh, born, AObj.born, AObj.live, injOk, kindOf, rens_ints, okIns_ints, List.range, List.range.loop, mrg, mset]
  · simp [ren, rens, sg, sig, okIn, okIns, exK, leK, leF, leV, matK, objM, renO, roSame, lh, born, AObj.born, AObj.live, injOk, kindOf, rens_ints, okIns_ints, List.range, List.range.loop, mrg, mset]
  · simp [ren, rens, sg, sig, okIn, okIns, exK, leK, leF, leV, matK, objM, renO, roSame, lh, born, AObj.born, AObj.live, injOk, kindOf, rens_ints, okIns_ints, List.range, List.range.loop, mrg, mset, evF, flat, ints]
  simp (maxSteps := 2000000) only [↓vP0, vQ0, vT0, simprocAttr]
  exact exit_keep (L1 := []) ⟨rfl, rfl⟩ trivial trivial
end Go.Proofs.Ytbfefpkhalegmaa

set_option linter.unusedVariables false
set_option linter.unusedSimpArgs false
namespace Go.Proofs.Ytbfefpkhalegmaa
open Go
set_option maxHeartbeats 4000000
set_option maxRecDepth 20000

theorem c_SameBytes (p q : List Int) (hp : p.length ≤ 9223372036854775807) (hq : q.length ≤ 9223372036854775807) : LCall Try.prog 31 [.slice 0 0 p.length, .slice 1 0 q.length] [.ro (ints .u8 p) 5, .ro (ints .u8 q) 5] fun r L =>
    r = .bool (decide (p = q)) ∧ L = [.ro (ints .u8 p) 5, .ro (ints .u8 q) 5] := by
  have hkeep : keepL 2 [AObj.ro (ints .u8 p) 5, .ro (ints .u8 q) 5] [AObj.ro (ints .u8 p) 5, .ro (ints .u8 q) 5] := ⟨⟨rfl, by rw [okIns_ints]; trivial⟩, ⟨rfl, by rw [okIns_ints]; trivial⟩, trivial⟩
  refine lcall_of_vc tyok Try.func31 rfl (by rfl) Try.results31 Try.ntmps31 ?_; intro C hD
  simp (maxSteps := 2000000) only [↓vP0, vQ0, vT0, simprocAttr]
  (with_reducible first | refine condK_dec (fun h => ?_) (fun h => ?_) | refine condK_beq (fun h => ?_) (fun h => ?_) | refine condK_bne (fun h => ?_) (fun h => ?_) | refine condK_intro (fun h => ?_) (fun h => ?_))
  · have hne : p ≠ q := fun e => by subst e; exact h rfl
    simp (maxSteps := 2000000) only [↓vP0, vQ0, vT0, simprocAttr]
    exact exit_keep0 ⟨by rw [decide_eq_false hne], rfl⟩ trivial hkeep
  · have hlen : p.length = q.length := by omega
    simp (maxSteps := 2000000) only [↓vP0, vQ0, vT0, simprocAttr]
    refine loopK_of tyok hD (α := Nat) (fun i => i ≤ p.length ∧ p.take i = q.take i) (fun i => p.length - i) (fun i => [.slice 0 0 p.length, .slice 1 0 q.length, .junk, .junk, .junk, .junk, .junk, .junk, .junk, .junk, .junk, .junk, .int .i64 p.length, .int .i64 i, .junk, .junk, .junk, .junk, .junk, .junk, .junk, .junk, .junk, .junk, .junk, .junk])
      (fun i => [.ro (ints .u8 p) 5, .ro (ints .u8 q) 5]) 0 ⟨by omega, by simp⟩ ?_ ?_
    · (refine ⟨by simp [leF, leV] <;> rfl, ⟨_, by first | rfl | exact (List.append_nil _).symm⟩, by simp, by simp [okIns, okIn, okIns_ints], by simp [AObj.born, okIns, okIn, AObj.cells, okIns_ints]⟩)
    rintro i ⟨hi, htk⟩
    simp (maxSteps := 2000000) only [↓vP0, vQ0, vT0, simprocAttr]
    (with_reducible first | refine condK_dec (fun h => ?_) (fun h => ?_) | refine condK_beq (fun h => ?_) (fun h => ?_) | refine condK_bne (fun h => ?_) (fun h => ?_) | refine condK_intro (fun h => ?_) (fun h => ?_))
    · have hil : i < p.length := by omega
      have him : i < q.length := by omega
      have g1 := ints_get .u8 p i hil
      have g2 := ints_get .u8 q i him
      simp (maxSteps := 2000000) only [↓vP0, vQ0, vT0, simprocAttr]
      refine drawK_of tyok rfl (usL []) (fun i => .below 0) (by kernel_rfl) ?_
      simp (maxSteps := 2000000) only [↓vP0, vQ0, vT0, simprocAttr]
      refine chk_intro (by omega) ?_
      simp (maxSteps := 2000000) only [↓vP0, vQ0, vT0, simprocAttr, g1]
      refine chk_intro (by omega) ?_
      simp (maxSteps := 2000000) only [↓vP0, vQ0, vT0, simprocAttr, g2]
      by_cases he : p.getD i 0 = q.getD i 0
      · have e0 : (p.getD i 0 != q.getD i 0) = false := by rw [he]; simp
        simp (maxSteps := 2000000) only [↓vP0, vQ0, vT0, simprocAttr, e0]
        simp (disch := omega) only [wr64, wru64, wru8, tdv, tmd, fdv]
        refine ⟨i + 1, ⟨by omega, take_eq_of htk hil him he⟩, by omega, ?_⟩
        simp only [Int.natCast_add, Int.cast_ofNat_Int]
        (refine ⟨by simp [leF, leV] <;> rfl, ⟨_, by first | rfl | exact (List.append_nil _).symm⟩, by simp, by simp [okIns, okIn, okIns_ints], by simp [AObj.born, okIns, okIn, AObj.cells, okIns_ints]⟩)
      · have e0 : (p.getD i 0 != q.getD i 0) = true := by simpa only [bne_iff_ne] using he
        have hne : p ≠ q := fun e => he (by rw [e])
        simp (maxSteps := 2000000) only [↓vP0, vQ0, vT0, simprocAttr, e0]
        exact exit_keep0 ⟨by rw [decide_eq_false hne], rfl⟩ trivial hkeep
    · have hpq : p = q := by
        rw [List.take_of_length_le (by omega), List.take_of_length_le (by omega)] at htk; exact htk
      simp (maxSteps := 2000000) only [↓vP0, vQ0, vT0, simprocAttr]
      exact exit_keep0 ⟨by rw [decide_eq_true hpq], rfl⟩ trivial hkeep
theorem c_SameInts (p q : List Int) (hp : p.length ≤ 9223372036854775807) (hq : q.length ≤ 9223372036854775807) : LCall Try.prog 106 [.slice 0 0 p.length, .slice 1 0 q.length] [.ro (ints .i64 p) 3, .ro (ints .i64 q) 3] fun r L =>
    r = .bool (decide (p = q)) ∧ L = [.ro (ints .i64 p) 3, .ro (ints .i64 q) 3] := by
  have hkeep : keepL 2 [AObj.ro (ints .i64 p) 3, .ro (ints .i64 q) 3] [AObj.ro (ints .i64 p) 3, .ro (ints .i64 q) 3] := ⟨⟨rfl, by rw [okIns_ints]; trivial⟩, ⟨rfl, by rw [okIns_ints]; trivial⟩, trivial⟩
  refine lcall_of_vc tyok Try.func106 rfl (by rfl) Try.results106 Try.ntmps106 ?_; intro C hD
  simp (maxSteps := 2000000) only [↓vP0, vQ0, vT0, simprocAttr]
  (with_reducible first | refine condK_dec (fun h => ?_) (fun h => ?_) | refine condK_beq (fun h => ?_) (fun h => ?_) | refine condK_bne (fun h => ?_) (fun h => ?_) | refine condK_intro (fun h => ?_) (fun h => ?_))
  · have hne : p ≠ q := fun e => by subst e; exact h rfl
    simp (maxSteps := 2000000) only [↓vP0, vQ0, vT0, simprocAttr]
    exact exit_keep0 ⟨by rw [decide_eq_false hne], rfl⟩ trivial hkeep
  · have hlen : p.length = q.length := by omega
    simp (maxSteps := 2000000) only [↓vP0, vQ0, vT0, simprocAttr]
    refine loopK_of tyok hD (α := Nat) (fun i => i ≤ p.length ∧ p.take i = q.take i) (fun i => p.length - i) (fun i => [.slice 0 0 p.length, .slice 1 0 q.length, .junk, .junk, .junk, .junk, .junk, .junk, .junk, .junk, .junk, .junk, .int .i64 p.length, .int .i64 i, .junk, .junk, .junk, .junk, .junk, .junk, .junk, .junk, .junk, .junk, .junk, .junk])
      (fun i => [.ro (ints .i64 p) 3, .ro (ints .i64 q) 3]) 0 ⟨by omega, by simp⟩ ?_ ?_
    · (refine ⟨by simp [leF, leV] <;> rfl, ⟨_, by first | rfl | exact (List.append_nil _).symm⟩, by simp, by simp [okIns, okIn, okIns_ints], by simp [AObj.born, okIns, okIn, AObj.cells, okIns_ints]⟩)
    rintro i ⟨hi, htk⟩
    simp (maxSteps := 2000000) only [↓vP0, vQ0, vT0, simprocAttr]
    (with_reducible first | refine condK_dec (fun h => ?_) (fun h => ?_) | refine condK_beq (fun h => ?_) (fun h => ?_) | refine condK_bne (fun h => ?_) (fun h => ?_) | refine condK_intro (fun h => ?_) (fun h => ?_))
    · have hil : i < p.length := by omega
      have him : i < q.length := by omega
      have g1 := ints_get .i64 p i hil
      have g2 := ints_get .i64 q i him
      simp (maxSteps := 2000000) only [↓vP0, vQ0, vT0, simprocAttr]
      refine drawK_of tyok rfl (usL []) (fun i => .below 0) (by kernel_rfl) ?_
      simp (maxSteps := 2000000) only [↓vP0, vQ0, vT0, simprocAttr]
      refine chk_intro (by omega) ?_
      simp (maxSteps := 2000000) only [↓vP0, vQ0, vT0, simprocAttr, g1]
      refine chk_intro (by omega) ?_
      simp (maxSteps := 2000000) only [↓vP0, vQ0, vT0, simprocAttr, g2]
      by_cases he : p.getD i 0 = q.getD i 0
      · have e0 : (p.getD i 0 != q.getD i 0) = false := by rw [he]; simp
        simp (maxSteps := 2000000) only [↓vP0, vQ0, vT0, simprocAttr, e0]
        simp (disch := omega) only [wr64, wru64, wru8, tdv, tmd, fdv]
        refine ⟨i + 1, ⟨by omega, take_eq_of htk hil him he⟩, by omega, ?_⟩
        simp only [Int.natCast_add, Int.cast_ofNat_Int]
        (refine ⟨by simp [leF, leV] <;> rfl, ⟨_, by first | rfl | exact (List.append_nil _).symm⟩, by simp, by simp [okIns, okIn, okIns_ints], by simp [AObj.born, okIns, okIn, AObj.cells, okIns_ints]⟩)
      · have e0 : (p.getD i 0 != q.getD i 0) = true := by simpa only [bne_iff_ne] using he
        have hne : p ≠ q := fun e => he (by rw [e])
        simp (maxSteps := 2000000) only [↓vP0, vQ0, vT0, simprocAttr, e0]
        exact exit_keep0 ⟨by rw [decide_eq_false hne], rfl⟩ trivial hkeep
    · have hpq : p = q := by
        rw [List.take_of_length_le (by omega), List.take_of_length_le (by omega)] at htk; exact htk
      simp (maxSteps := 2000000) only [↓vP0, vQ0, vT0, simprocAttr]
      exact exit_keep0 ⟨by rw [decide_eq_true hpq], rfl⟩ trivial hkeep
theorem c_SameModel (k k' : Int) (p q : List Int) (hp : p.length ≤ 9223372036854775807) (hq : q.length ≤ 9223372036854775807) : LCall Try.prog 44 [.agg [.int .i64 k, .slice 0 0 p.length], .agg [.int .i64 k', .slice 1 0 q.length]] [.ro (ints .i64 p) 3, .ro (ints .i64 q) 3] fun r L =>
    r = .bool (decide (k = k' ∧ p = q)) ∧ L = [.ro (ints .i64 p) 3, .ro (ints .i64 q) 3] := by
  have hkeep : keepL 2 [AObj.ro (ints .i64 p) 3, .ro (ints .i64 q) 3] [AObj.ro (ints .i64 p) 3, .ro (ints .i64 q) 3] := ⟨⟨rfl, by rw [okIns_ints]; trivial⟩, ⟨rfl, by rw [okIns_ints]; trivial⟩, trivial⟩
  refine lcall_of_vc tyok Try.func44 rfl (by rfl) Try.results44 Try.ntmps44 ?_; intro C hD
  by_cases he : k = k'
  · have e0 : (k == k') = true := by simpa using he
    simp (maxSteps := 2000000) only [↓vP0, vQ0, vT0, simprocAttr, e0]
    refine callK_read (c_SameInts p q hp hq) [0, 1] ?_ ?_ ?_ rfl ?_
    · simp [ren, rens, sg, sig, okIn, okIns, exK, leK, leF, leV, matK, objM, renO, roSame, lh, born, AObj.born, AObj.live, injOk, kindOf, rens_ints, okIns_ints, List.range, List.range.loop, mrg, mset]
    · simp [ren, rens, sg, sig, okIn, okIns, exK, leK, leF, leV, matK, objM, renO, roSame, lh, born, AObj.born, AObj.live, injOk, kindOf, rens_ints, okIns_ints, List.range, List.range.loop, mrg, mset]
    · simp [ren, rens, sg, sig, okIn, okIns, exK, leK, leF, leV, matK, objM, renO, roSame, lh, born, AObj.born, AObj.live, injOk, kindOf, rens_ints, okIns_ints, List.range, List.range.loop, mrg, mset]
    simp (maxSteps := 2000000) only [↓vP0, vQ0, vT0, simprocAttr]
    refine exit_keep (L1 := [.ro (ints .i64 p) 3, .ro (ints .i64 q) 3]) ⟨?_, rfl⟩ trivial hkeep
    by_cases h2 : p = q
    · rw [decide_eq_true h2, decide_eq_true ⟨he, h2⟩]
    · rw [decide_eq_false h2, decide_eq_false (fun h => h2 h.2)]
  · have e0 : (k == k') = false := by simpa using he
    simp (maxSteps := 2000000) only [↓vP0, vQ0, vT0, simprocAttr, e0]
    exact exit_keep (L1 := [.ro (ints .i64 p) 3, .ro (ints .i64 q) 3]) ⟨by rw [decide_eq_false (fun h => he h.1)], rfl⟩ trivial hkeep
end Go.Proofs.Ytbfefpkhalegmaa

set_option linter.unusedVariables false
set_option linter.unusedSimpArgs false
namespace Go.Proofs.Ytbfefpkhalegmaa
open Go Go.RowKit

/-- Arguments that are read alone: where they lie, and what stands there. -/
structure RoArg where
  cs : List AV
  e : TypeId
  blk : Nat
  base : Nat
def roL (l : List RoArg) : List AObj := l.map fun x => .ro x.cs x.e
def roP (l : List RoArg) (i : Nat) : Pl := match l[i]? with | some x => ⟨x.blk, x.base, false, 0, 0⟩ | none => ⟨0, 0, false, 0, 0⟩
theorem roL_get (l : List RoArg) (i : Nat) : lh (roL l) i = match l[i]? with | some x => .ro x.cs x.e | none => .unborn := by
  unfold lh roL
  rw [List.getD_eq_getElem?_getD, List.getElem?_map]
  cases l[i]? <;> rfl
theorem sim_ro {P : Program} {W : World} {l : List RoArg} (h : ∀ x ∈ l, CRel (born (lh (roL l))) (roP l) x.cs (fun j => W.cell? ⟨x.blk, x.base + j, none⟩)) : Sim P (roP l) (lh (roL l)) W := by
  refine ⟨fun i cs e he => ?_, fun i cs e he => ?_, fun i j hij hi hj => ?_⟩
  · rw [roL_get] at he
    cases hx : l[i]? <;> simp [hx] at he
  · rw [roL_get] at he
    cases hx : l[i]? with
    | none => simp [hx] at he
    | some x =>
      simp only [hx, AObj.ro.injEq] at he
      obtain ⟨rfl, rfl⟩ := he
      have hp : roP l i = ⟨x.blk, x.base, false, 0, 0⟩ := by simp [roP, hx]
      rw [hp]
      exact ⟨by simp, h x (List.mem_of_getElem? hx)⟩
  · have := hi.1
    rw [roL_get] at this
    cases hx : l[i]? <;> simp [hx, AObj.isOwn] at this

theorem calls_law {P : Program} {f : FuncId} {W : World} {l : List RoArg} {args : List AV} {vargs : List Value} (c : LCall P f args (roL l) fun r L => r = .bool true ∧ L = roL l) (hs : Sim P (roP l) (lh (roL l)) W)
    (hv : VsRel (born (lh (roL l))) (roP l) args vargs) : Calls P f vargs.toArray W fun e w' => e = .returned (.bool true) ∧ Below W.heap.size W w' := by
  refine Calls.mono (c.2 (roP l) W vargs hs hv) ?_
  rintro e w' ⟨ρ', r, h', v, rfl, ⟨L', rfl, _, _, rfl, rfl⟩, hsim, hr, hk, _, _⟩
  refine ⟨by rw [hr.bool_inv], ⟨hk.os, hk.tape, hk.output, hk.size, fun k hlt => hk.block k hlt ?_⟩⟩
  rintro ⟨i, hi, rfl⟩
  have := hi.1
  rw [roL_get] at this
  cases hx : l[i]? <;> simp [hx, AObj.isOwn] at this

/-- A slice of whole numbers that came in. -/
def IsRow (k : IntKind) (w : World) (a : Option Addr) (len cap : Nat) (zs : List Int) : Prop :=
  (a = none ∧ len = 0 ∧ cap = 0 ∧ zs = []) ∨
  ∃ x, a = some x ∧ len ≤ cap ∧ cap ≤ maxLen ∧ zs.length = cap ∧ (∀ i, i < zs.length → w.cell? (x.add i) = some (.int k (zs.getD i 0))) ∧ ∀ n ∈ zs, (Lit.int k n).wf = true
theorem row_ints {k : IntKind} {W : World} {a : Option Addr} {len cap : Nat} {zs : List Int} (h : IsRow k W a len cap zs) (e : TypeId) : ∃ x : RoArg, x.cs = ints k (zs.take len) ∧ x.e = e ∧ (zs.take len).length = len ∧ len ≤ maxLen ∧
    (∀ n ∈ zs.take len, (Lit.int k n).wf = true) ∧
    (∀ B ρ, CRel B ρ x.cs (fun j => W.cell? ⟨x.blk, x.base + j, none⟩)) ∧ ∀ (B : Nat → Prop) (ρ : Nat → Pl) (i : Nat), B i → ρ i = ⟨x.blk, x.base, false, 0, 0⟩ → VRel B ρ (.slice i 0 len) (.slice a len cap) := by
  rcases h with ⟨rfl, rfl, rfl, rfl⟩ | ⟨x, rfl, hl, hm, hz, hc, hw⟩
  · refine ⟨⟨[], e, 0, 0⟩, rfl, rfl, rfl, by omega, by simp, fun B ρ j v hv => by simp at hv, fun B ρ i hb _ => .slice0 i 0 none hb⟩
  · by_cases h0 : cap = 0
    · have : zs = [] := List.length_eq_zero_iff.1 (by omega)
      have hl0 : len = 0 := by omega
      subst h0 this hl0
      refine ⟨⟨[], e, 0, 0⟩, rfl, rfl, rfl, by omega, by simp, fun B ρ j v hv => by simp at hv, fun B ρ i hb _ => .slice0 i 0 (some x) hb⟩
    · obtain ⟨b, o, sp⟩ := x
      have hc0 := hc 0 (by omega)
      have hsp : sp = none := by simpa [Addr.add] using World.cell?_spot hc0
      subst hsp
      have htk : (zs.take len).length = len := by simp; omega
      refine ⟨⟨ints k (zs.take len), e, b, o⟩, rfl, rfl, htk, by omega, fun n hn => hw n (List.mem_of_mem_take hn), fun B ρ j v hv => ?_, fun B ρ i hb hp => ?_⟩
      · have hj : j < (zs.take len).length := by
          have := (List.getElem?_eq_some_iff.1 hv).1; simpa [ints] using this
        rw [ints_get _ _ _ hj] at hv
        injection hv with hv
        subst hv
        have hjz : j < zs.length := by omega
        refine ⟨.int k (zs.getD j 0), ?_, ?_⟩
        · have := hc j hjz
          rwa [addr_add] at this
        · have e1 : (zs.take len).getD j 0 = zs.getD j 0 := by
            have hj' : j < len := by omega
            simp [List.getD_eq_getElem?_getD, List.getElem?_take, hj']
          rw [e1]; exact .int k _
      · have := VRel.slice (B := B) (ρ := ρ) i 0 len cap hb hl (fun h => by rw [hp] at h; cases h)
        rw [hp] at this
        exact this
theorem wf_u8 {n : Int} (h : (Lit.int .u8 n).wf = true) : 0 ≤ n ∧ n ≤ 255 := by
  have h1 : (decide (IntKind.min .u8 ≤ n) && decide (n ≤ IntKind.max .u8)) = true := h
  simp only [Bool.and_eq_true, decide_eq_true_eq] at h1
  exact h1
theorem wf_i64 {n : Int} (h : (Lit.int .i64 n).wf = true) : -9223372036854775808 ≤ n ∧ n ≤ 9223372036854775807 := by
  have h1 : (decide (IntKind.min .i64 ≤ n) && decide (n ≤ IntKind.max .i64)) = true := h
  simp only [Bool.and_eq_true, decide_eq_true_eq] at h1
  exact h1
end Go.Proofs.Ytbfefpkhalegmaa
