/- Contracts: the program's GetId and Get; sameModel of the number laws. -/
import Derived.Test.YtbfefpkhalegmaaN7
import Derived.Test.YtbfefpkhalegmaaN6
import Derived.KernelRfl
import Derived.Test.YtbfefpkhalegmaaN1
import Derived.WalkKit
import Derived.ProofKit

set_option linter.unusedVariables false
set_option linter.unusedSimpArgs false
namespace Go.Proofs.Ytbfefpkhalegmaa
open Go
set_option maxHeartbeats 4000000
set_option maxRecDepth 20000

theorem c_pNumGet (d : Dec) (hd : d.Ok) (base : Nat) (hb : base + 48 ≤ d.st.length) (hl : d.st.length ≤ 8192) (hcl : d.code.length ≤ 1099511627776) :
    LCall Try.prog 60 [.ptr 0 0, .int .i64 base] (pDecL d) fun r L => r = .tup [numV (numGet base d).none (numGet base d).n, .int .i64 (numGet base d).err] ∧ L = pDecL (numGet base d).d := by
  have hcc := (numGet_ok hb ⟨hd, rfl, rfl, rfl⟩ : Of d (numGet base d).d).2.2.2
  refine lcall_of_vc tyok Try.func60 rfl (by rfl) Try.results60 Try.ntmps60 ?_; intro C hD
  simp only [pDecL] at hD ⊢
  simp (maxSteps := 2000000) only [↓vP0, vQ0, vT0, simprocAttr]
  refine callK_read (c_pGetBad d) [0, 1, 2] ?_ ?_ ?_ rfl ?_
  · simp [ren, rens, sg, sig, okIn, okIns, exK, leK, leF, leV, matK, objM, renO, roSame, lh, born, AObj.born, AObj.live, injOk, kindOf, rens_ints, okIns_ints, List.range, List.range.loop, mrg, mset, pDecR, pDecC_rens, pDecC_okIns, pDecC_inj]
  · simp [ren, rens, sg, sig, okIn, okIns, exK, leK, leF, leV, matK, objM, renO, roSame, lh, born, AObj.born, AObj.live, injOk, kindOf, rens_ints, okIns_ints, List.range, List.range.loop, mrg, mset, pDecR, pDecC_rens, pDecC_okIns, pDecC_inj]
  · simp [ren, rens, sg, sig, okIn, okIns, exK, leK, leF, leV, matK, objM, renO, roSame, lh, born, AObj.born, AObj.live, injOk, kindOf, rens_ints, okIns_ints, List.range, List.range.loop, mrg, mset, pDecR, pDecC_rens, pDecC_okIns, pDecC_inj]
  simp (maxSteps := 2000000) only [↓vP0, vQ0, vT0, simprocAttr]
  refine callK_det (c_pDModel d hl) [0, 1, 2] ?_ ?_ ?_ rfl (by simp [pDecR, pDecC_rens, pDecC_okIns, pDecC_inj]) ?_
  · simp [ren, rens, sg, sig, okIn, okIns, exK, leK, leF, leV, matK, objM, renO, roSame, lh, born, AObj.born, AObj.live, injOk, kindOf, rens_ints, okIns_ints, List.range, List.range.loop, mrg, mset, pDecR, pDecC_rens, pDecC_okIns, pDecC_inj]
  · simp [ren, rens, sg, sig, okIn, okIns, exK, leK, leF, leV, matK, objM, renO, roSame, lh, born, AObj.born, AObj.live, injOk, kindOf, rens_ints, okIns_ints, List.range, List.range.loop, mrg, mset, pDecR, pDecC_rens, pDecC_okIns, pDecC_inj]
  · simp [ren, rens, sg, sig, okIn, okIns, exK, leK, leF, leV, matK, objM, renO, roSame, lh, born, AObj.born, AObj.live, injOk, kindOf, rens_ints, okIns_ints, List.range, List.range.loop, mrg, mset, pDecR, pDecC_rens, pDecC_okIns, pDecC_inj]
  simp only [pDecR]
  simp (maxSteps := 2000000) only [↓vP0, vQ0, vT0, simprocAttr, pDecC_rens]
  refine callK_read (c_fits d.kd d.st hl base 48 (by omega) (by omega) (by omega)) [4] ?_ ?_ ?_ rfl ?_
  · simp [ren, rens, sg, sig, okIn, okIns, exK, leK, leF, leV, matK, objM, renO, roSame, lh, born, AObj.born, AObj.live, injOk, kindOf, rens_ints, okIns_ints, List.range, List.range.loop, mrg, mset]
  · simp [ren, rens, sg, sig, okIn, okIns, exK, leK, leF, leV, matK, objM, renO, roSame, lh, born, AObj.born, AObj.live, injOk, kindOf, rens_ints, okIns_ints, List.range, List.range.loop, mrg, mset]
  · simp [ren, rens, sg, sig, okIn, okIns, exK, leK, leF, leV, matK, objM, renO, roSame, lh, born, AObj.born, AObj.live, injOk, kindOf, rens_ints, okIns_ints, List.range, List.range.loop, mrg, mset]
  rw [if_neg (by omega)]
  simp (maxSteps := 2000000) only [↓vP0, vQ0, vT0, simprocAttr]
  refine callK_det (c_get d hd base hb hcl) [0, 1, 2] ?_ ?_ ?_ rfl (by simp [pDecL, pDecC_rens, pDecC_okIns, pDecC_inj]) ?_
  · simp [ren, rens, sg, sig, okIn, okIns, exK, leK, leF, leV, matK, objM, renO, roSame, lh, born, AObj.born, AObj.live, injOk, kindOf, rens_ints, okIns_ints, List.range, List.range.loop, mrg, mset, pDecL, pDecC_rens, pDecC_okIns, pDecC_inj]
  · simp [ren, rens, sg, sig, okIn, okIns, exK, leK, leF, leV, matK, objM, renO, roSame, lh, born, AObj.born, AObj.live, injOk, kindOf, rens_ints, okIns_ints, List.range, List.range.loop, mrg, mset, pDecL, pDecC_rens, pDecC_okIns, pDecC_inj]
  · simp [ren, rens, sg, sig, okIn, okIns, exK, leK, leF, leV, matK, objM, renO, roSame, lh, born, AObj.born, AObj.live, injOk, kindOf, rens_ints, okIns_ints, List.range, List.range.loop, mrg, mset, pDecL, pDecC_rens, pDecC_okIns, pDecC_inj]
  simp only [pDecL]
  simp (maxSteps := 2000000) only [↓vP0, vQ0, vT0, simprocAttr, pDecC_rens]
  refine exit_of [] (.tup [numV (numGet base d).none (numGet base d).n, .int .i64 (numGet base d).err]) (pDecL (numGet base d).d) ⟨rfl, rfl⟩ ?_ ?_ rfl ?_ ?_
  all_goals simp [ren, rens, sg, sig, okIn, okIns, exK, leK, leF, leV, matK, objM, renO, roSame, lh, born, AObj.born, AObj.live, injOk, kindOf, rens_ints, okIns_ints, List.range, List.range.loop, mrg, mset, pDecL, pDecC_rens, pDecC_okIns, pDecC_inj, hcc]

def idGetV (base K : Nat) (d : Dec) : Int := if (idRun base K 1 d).1 = 0 then ((idRun base K 1 d).2.1 : Int) - 2 ^ K else 0
theorem c_pGetId (d : Dec) (hd : d.Ok) (base K : Nat) (hK : K ≤ 10) (hb : base + 2 ^ K ≤ d.st.length + 1) (hl : d.st.length ≤ 8192) (hcl : d.code.length ≤ 1099511627776) :
    LCall Try.prog 59 [.ptr 0 0, .int .i64 base, .int .i64 K] (pDecL d) fun r L => r = .tup [.int .i64 (idGetV base K d), .int .i64 (idRun base K 1 d).1] ∧ L = pDecL (idRun base K 1 d).2.2 := by
  obtain ⟨q0, q1⟩ := pow10 hK
  have hq : (2 : Int) ^ K = ((2 ^ K : Nat) : Int) := by simp
  have ew : IntKind.i64.wrap (2 ^ K - 1) = 2 ^ K - 1 := wr64 _ (by omega) (by omega)
  have hsh := shl1 (K : Int) (by omega) (by omega)
  rw [Int.toNat_natCast] at hsh
  refine lcall_of_vc tyok Try.func59 rfl (by rfl) Try.results59 Try.ntmps59 ?_; intro C hD
  simp only [pDecL] at hD ⊢
  simp (maxSteps := 2000000) only [↓vP0, vQ0, vT0, simprocAttr]
  refine callK_read (c_pGetBad d) [0, 1, 2] ?_ ?_ ?_ rfl ?_
  · simp [ren, rens, sg, sig, okIn, okIns, exK, leK, leF, leV, matK, objM, renO, roSame, lh, born, AObj.born, AObj.live, injOk, kindOf, rens_ints, okIns_ints, List.range, List.range.loop, mrg, mset, pDecR, pDecC_rens, pDecC_okIns, pDecC_inj]
  · simp [ren, rens, sg, sig, okIn, okIns, exK, leK, leF, leV, matK, objM, renO, roSame, lh, born, AObj.born, AObj.live, injOk, kindOf, rens_ints, okIns_ints, List.range, List.range.loop, mrg, mset, pDecR, pDecC_rens, pDecC_okIns, pDecC_inj]
  · simp [ren, rens, sg, sig, okIn, okIns, exK, leK, leF, leV, matK, objM, renO, roSame, lh, born, AObj.born, AObj.live, injOk, kindOf, rens_ints, okIns_ints, List.range, List.range.loop, mrg, mset, pDecR, pDecC_rens, pDecC_okIns, pDecC_inj]
  simp (maxSteps := 2000000) only [↓vP0, vQ0, vT0, simprocAttr, decide_eq_false (show ¬ (K : Int) < 0 by omega), decide_eq_false (show ¬ 10 < (K : Int) by omega)]
  refine drawK_of tyok rfl (usL []) (fun i => .below 0) (by kernel_rfl) ?_
  simp (maxSteps := 2000000) only [↓vP0, vQ0, vT0, simprocAttr]
  refine callK_det (c_pDModel d hl) [0, 1, 2] ?_ ?_ ?_ rfl (by simp [pDecR, pDecC_rens, pDecC_okIns, pDecC_inj]) ?_
  · simp [ren, rens, sg, sig, okIn, okIns, exK, leK, leF, leV, matK, objM, renO, roSame, lh, born, AObj.born, AObj.live, injOk, kindOf, rens_ints, okIns_ints, List.range, List.range.loop, mrg, mset, pDecR, pDecC_rens, pDecC_okIns, pDecC_inj]
  · simp [ren, rens, sg, sig, okIn, okIns, exK, leK, leF, leV, matK, objM, renO, roSame, lh, born, AObj.born, AObj.live, injOk, kindOf, rens_ints, okIns_ints, List.range, List.range.loop, mrg, mset, pDecR, pDecC_rens, pDecC_okIns, pDecC_inj]
  · simp [ren, rens, sg, sig, okIn, okIns, exK, leK, leF, leV, matK, objM, renO, roSame, lh, born, AObj.born, AObj.live, injOk, kindOf, rens_ints, okIns_ints, List.range, List.range.loop, mrg, mset, pDecR, pDecC_rens, pDecC_okIns, pDecC_inj]
  simp only [pDecR]
  simp (maxSteps := 2000000) only [↓vP0, vQ0, vT0, simprocAttr, pDecC_rens]
  refine chk_intro (by omega) ?_
  simp (maxSteps := 2000000) only [↓vP0, vQ0, vT0, simprocAttr, hsh, Int.toNat_natCast, ew]
  refine callK_read (c_fits d.kd d.st hl base (2 ^ K - 1) (by omega) (by omega) (by omega)) [3] ?_ ?_ ?_ rfl ?_
  · simp [ren, rens, sg, sig, okIn, okIns, exK, leK, leF, leV, matK, objM, renO, roSame, lh, born, AObj.born, AObj.live, injOk, kindOf, rens_ints, okIns_ints, List.range, List.range.loop, mrg, mset]
  · simp [ren, rens, sg, sig, okIn, okIns, exK, leK, leF, leV, matK, objM, renO, roSame, lh, born, AObj.born, AObj.live, injOk, kindOf, rens_ints, okIns_ints, List.range, List.range.loop, mrg, mset]
  · simp [ren, rens, sg, sig, okIn, okIns, exK, leK, leF, leV, matK, objM, renO, roSame, lh, born, AObj.born, AObj.live, injOk, kindOf, rens_ints, okIns_ints, List.range, List.range.loop, mrg, mset]
  rw [if_neg (by omega)]
  simp (maxSteps := 2000000) only [↓vP0, vQ0, vT0, simprocAttr]
  refine loopK_ren tyok hD (α := Nat × Nat × Dec) (fun s => s.1 ≤ K ∧ Of d s.2.2 ∧ 1 ≤ s.2.1 ∧ s.2.1 + 1 ≤ 2 ^ (s.1 + 1) ∧ idRun base (K - s.1) s.2.1 s.2.2 = idRun base K 1 d) (fun s => K - s.1)
    (fun s => [.ptr 0 0, .int .i64 base, .int .i64 K, .junk, .junk, .junk, .junk, .junk, .junk, .junk, .junk, .int .i64 s.2.1, .junk, .junk, .junk, .junk, .junk, .junk, .junk, .junk, .junk, .junk, .junk, .junk, .junk, .junk, .junk, .junk, .junk, .junk, .junk, .junk, .junk, .junk, .junk, .junk, .junk, .junk, .int .i64 K, .int .i64 s.1, .junk, .junk, .junk, .junk, .junk, .junk, .junk, .junk, .junk, .junk, .junk, .junk, .junk, .junk, .junk, .junk, .junk, .junk, .junk, .junk, .junk, .junk])
    (fun s => [.own (pDecC s.2.2 1 2) 154, .own (ints .i64 s.2.2.st) 3, .ro (ints .u8 d.code) 5]) (0, 1, d) ⟨by simp, ⟨hd, rfl, rfl, rfl⟩, by simp, by simp, rfl⟩ ⟨[], ?_⟩ ?_
  · simp only [leR]
    simp [ren, rens, sg, sig, okIn, okIns, exK, leK, leF, leV, matK, objM, renO, roSame, lh, born, AObj.born, AObj.live, injOk, kindOf, rens_ints, okIns_ints, List.range, List.range.loop, mrg, mset, leF, leV, leK, pDecC_rens, pDecC_okIns, pDecC_inj]
  rintro ⟨i, p, D⟩ ⟨hi, hO, hp, hpb, hrun⟩
  simp only at hi hO hp hpb hrun
  have hpw : 2 ^ (i + 1) ≤ 2 * 2 ^ K := by
    have := Nat.pow_le_pow_right (n := 2) (by decide) (show i + 1 ≤ K + 1 by omega)
    rw [Nat.pow_succ 2 K] at this; omega
  simp (maxSteps := 2000000) only [↓vP0, vQ0, vT0, simprocAttr, pDecC_rens]
  (with_reducible first | refine condK_dec (fun h => ?_) (fun h => ?_) | refine condK_beq (fun h => ?_) (fun h => ?_) | refine condK_bne (fun h => ?_) (fun h => ?_) | refine condK_intro (fun h => ?_) (fun h => ?_))
  · have hiK : i + 1 ≤ K := by omega
    have hpw2 : 2 ^ (i + 1) ≤ 2 ^ K := Nat.pow_le_pow_right (by decide) hiK
    obtain ⟨r, hr⟩ : ∃ r, K - i = r + 1 := ⟨K - i - 1, by omega⟩
    rw [hr, idRun] at hrun
    have ewp : IntKind.i64.wrap (IntKind.i64.wrap ((base : Int) + p) - 1) = ((base + (p - 1) : Nat) : Int) := by
      have w2 : IntKind.i64.wrap ((base : Int) + p) = (base : Int) + p := wr64 _ (by omega) (by omega)
      rw [w2, wr64 _ (by omega) (by omega)]; omega
    have hO' := hO.after (c := base + (p - 1)) (by omega)
    simp (maxSteps := 2000000) only [↓vP0, vQ0, vT0, simprocAttr, ewp]
    refine callK_det (c_pGet D hO.1 (base + (p - 1)) (by have := hO.2.2.1; omega) (by rw [hO.2.2.2]; exact hcl)) [0, 1, 2] ?_ ?_ ?_ rfl (by simp [pDecL, pDecC_rens, pDecC_okIns, pDecC_inj, hO.2.2.2]) ?_
    · simp [ren, rens, sg, sig, okIn, okIns, exK, leK, leF, leV, matK, objM, renO, roSame, lh, born, AObj.born, AObj.live, injOk, kindOf, rens_ints, okIns_ints, List.range, List.range.loop, mrg, mset, pDecL, pDecC_rens, pDecC_okIns, pDecC_inj, hO.2.2.2]
    · simp [ren, rens, sg, sig, okIn, okIns, exK, leK, leF, leV, matK, objM, renO, roSame, lh, born, AObj.born, AObj.live, injOk, kindOf, rens_ints, okIns_ints, List.range, List.range.loop, mrg, mset, pDecL, pDecC_rens, pDecC_okIns, pDecC_inj, hO.2.2.2]
    · simp [ren, rens, sg, sig, okIn, okIns, exK, leK, leF, leV, matK, objM, renO, roSame, lh, born, AObj.born, AObj.live, injOk, kindOf, rens_ints, okIns_ints, List.range, List.range.loop, mrg, mset, pDecL, pDecC_rens, pDecC_okIns, pDecC_inj, hO.2.2.2]
    rcases derr D (base + (p - 1)) with ⟨e1, e2⟩ | ⟨e1, e2⟩
    · rw [if_neg (by omega)] at hrun
      simp only [pDecL, e1]
      simp (maxSteps := 2000000) only [↓vP0, vQ0, vT0, simprocAttr, pDecC_rens]
      have hgb : 0 ≤ D.got (base + (p - 1)) ∧ D.got (base + (p - 1)) ≤ 1 := by rcases e2 with h | h <;> omega
      have ep : IntKind.i64.wrap (IntKind.i64.wrap (2 * (p : Int)) + D.got (base + (p - 1))) = ((2 * p + (D.got (base + (p - 1))).toNat : Nat) : Int) := by
        have w2 : IntKind.i64.wrap (2 * (p : Int)) = 2 * (p : Int) := wr64 _ (by omega) (by omega)
        rw [w2, wr64 _ (by omega) (by omega)]
        omega
      rw [ep]
      simp (disch := omega) only [wr64, wru64, wru8, tdv, tmd, fdv]
      have hp2 : 2 ^ (i + 1 + 1) = 2 ^ (i + 1) * 2 := Nat.pow_succ 2 (i + 1)
      refine ⟨(i + 1, 2 * p + (D.got (base + (p - 1))).toNat, D.after (base + (p - 1))), ⟨by simp only; omega, hO', by simp only; omega, by simp only; rw [hp2]; omega, by simp only; rw [← hrun]; congr 1; omega⟩, by simp only; omega, [], ?_⟩
      simp only [leR, Int.natCast_add, Int.cast_ofNat_Int]
      simp [ren, rens, sg, sig, okIn, okIns, exK, leK, leF, leV, matK, objM, renO, roSame, lh, born, AObj.born, AObj.live, injOk, kindOf, rens_ints, okIns_ints, List.range, List.range.loop, mrg, mset, leF, leV, leK, pDecC_rens, pDecC_okIns, pDecC_inj, hO'.2.2.2]
    · rw [if_pos (by omega), e1] at hrun
      simp only [pDecL, e1]
      have hv : idGetV base K d = 0 := by rw [idGetV, ← hrun]; simp
      simp (maxSteps := 2000000) only [↓vP0, vQ0, vT0, simprocAttr, pDecC_rens]
      refine exit_of [] (.tup [.int .i64 (idGetV base K d), .int .i64 (idRun base K 1 d).1]) (pDecL (idRun base K 1 d).2.2) ⟨rfl, rfl⟩ ?_ ?_ rfl ?_ ?_
      all_goals simp [ren, rens, sg, sig, okIn, okIns, exK, leK, leF, leV, matK, objM, renO, roSame, lh, born, AObj.born, AObj.live, injOk, kindOf, rens_ints, okIns_ints, List.range, List.range.loop, mrg, mset, pDecL, pDecC_rens, pDecC_okIns, pDecC_inj, hv, ← hrun, hO'.2.2.2]
  · have hiK : i = K := by omega
    subst hiK
    rw [Nat.sub_self] at hrun
    simp only [idRun] at hrun
    have hv : idGetV base i d = (p : Int) - 2 ^ i := by rw [idGetV, ← hrun]; simp
    have ew2 : IntKind.i64.wrap ((p : Int) - 2 ^ i) = (p : Int) - 2 ^ i := by
      have : 2 ^ (i + 1) = 2 ^ i * 2 := Nat.pow_succ 2 i
      exact wr64 _ (by omega) (by omega)
    simp (maxSteps := 2000000) only [↓vP0, vQ0, vT0, simprocAttr]
    refine chk_intro (by omega) ?_
    simp (maxSteps := 2000000) only [↓vP0, vQ0, vT0, simprocAttr, hsh, Int.toNat_natCast, ew2]
    refine exit_of [] (.tup [.int .i64 (idGetV base i d), .int .i64 (idRun base i 1 d).1]) (pDecL (idRun base i 1 d).2.2) ⟨rfl, rfl⟩ ?_ ?_ rfl ?_ ?_
    all_goals simp [ren, rens, sg, sig, okIn, okIns, exK, leK, leF, leV, matK, objM, renO, roSame, lh, born, AObj.born, AObj.live, injOk, kindOf, rens_ints, okIns_ints, List.range, List.range.loop, mrg, mset, pDecL, pDecC_rens, pDecC_okIns, pDecC_inj, hv, ← hrun, hO.2.2.2]
end Go.Proofs.Ytbfefpkhalegmaa

set_option linter.unusedVariables false
set_option linter.unusedSimpArgs false
namespace Go.Proofs.Ytbfefpkhalegmaa
open Go
set_option maxHeartbeats 4000000
set_option maxRecDepth 20000

abbrev Deed := Int × Int × Int × Bool × Bool × Int
def deedC (d : Deed) : List AV := [.int .i64 d.1, .int .i64 d.2.1, .int .i64 d.2.2.1, .bool d.2.2.2.1, .bool d.2.2.2.2.1, .int .i64 d.2.2.2.2.2]
def deedF : List Deed → List AV
  | [] => []
  | d :: l => deedC d ++ deedF l
def deed0 : Deed := (0, 0, 0, false, false, 0)
theorem deedF_len : ∀ l, (deedF l).length = l.length * 6
  | [] => rfl
  | d :: l => by simp [deedF, deedC, deedF_len l]; omega
theorem deedF_app : ∀ l m, deedF (l ++ m) = deedF l ++ deedF m
  | [], m => rfl
  | d :: l, m => by simp [deedF, deedF_app l m]
theorem deedF_rens (σ : Nat → Nat) : ∀ l, rens σ (deedF l) = deedF l
  | [] => rfl
  | d :: l => by
    have := deedF_rens σ l
    simp only [deedF, deedC, List.cons_append, List.nil_append, rens, ren, this]
theorem deedF_okIns (B : Nat → Prop) : ∀ l, okIns B (deedF l) = True
  | [] => eq_true trivial
  | d :: l => by
    have := deedF_okIns B l
    simp only [deedF, deedC, List.cons_append, List.nil_append, okIns, okIn, this, and_self]
theorem deedF_get : ∀ (l : List Deed) (i : Nat), i < l.length → ((deedF l).drop (i * 6)).take 6 = deedC (l.getD i deed0)
  | [], i, h => absurd h (by simp)
  | d :: l, 0, h => by simp [deedF, deedC]
  | d :: l, i + 1, h => by
    rw [show (i + 1) * 6 = i * 6 + 6 by omega]
    simp only [deedF, deedC, List.cons_append, List.nil_append, List.drop_succ_cons]
    rw [show (List.getD (d :: l) (i + 1) deed0) = l.getD i deed0 by simp [List.getD]]
    exact deedF_get l i (by simpa using h)
structure DeedAt (c : List AV) (k : Nat) (d : Deed) : Prop where
  b : c[k]? = some (.int .i64 d.1)
  kk : c[k + 1]? = some (.int .i64 d.2.1)
  i : c[k + 2]? = some (.int .i64 d.2.2.1)
  is : c[k + 3]? = some (.bool d.2.2.2.1)
  n : (c.drop (k + 4)).take 2 = [.bool d.2.2.2.2.1, .int .i64 d.2.2.2.2.2]
  w : (c.drop k).take 6 = deedC d
theorem deedF_at (l : List Deed) (i : Nat) (h : i < l.length) : DeedAt (deedF l) (i * 6) (l.getD i deed0) := by
  have g := deedF_get l i h
  have at' : ∀ j, j < 6 → (deedF l)[i * 6 + j]? = (deedC (l.getD i deed0))[j]? := by
    intro j hj
    have := congrArg (fun x => x[j]?) g
    simp only [List.getElem?_take, List.getElem?_drop, if_pos hj] at this
    exact this
  refine ⟨at' 0 (by omega), at' 1 (by omega), at' 2 (by omega), at' 3 (by omega), ?_, g⟩
  have g4 := congrArg (List.drop 4) g
  rw [List.drop_take, List.drop_drop] at g4
  exact g4
theorem deedF_snoc (l : List Deed) (d : Deed) (b k i n : Int) (is no : Bool) (h : d = (b, k, i, is, no, n)) : deedF l ++ [.int .i64 b, .int .i64 k, .int .i64 i, .bool is, .bool no, .int .i64 n] = deedF (l ++ [d]) := by
  subst h; rw [deedF_app]; rfl

def dErr (n : Nat) (d : Deed) : Int := if d.2.2.2.1 then ipErr d.2.1 d.2.2.1 d.1 n else npErr d.2.2.2.2.1 d.2.2.2.2.2 d.1 n
def dEvs (d : Deed) : List (Nat × Int) := if d.2.2.2.1 then mv d.1.toNat (idEvs d.2.2.1.toNat d.2.1.toNat 1) else mv d.1.toNat (numEv d.2.2.2.2.1 d.2.2.2.2.2)
def dEv (n : Nat) (d : Deed) : List (Nat × Int) := if dErr n d = 0 then dEvs d else []
def dAll (n : Nat) (l : List Deed) : List (Nat × Int) := l.flatMap (dEv n)
def kept (n : Nat) (l : List Deed) : List Deed := l.filter fun d => decide (dErr n d = 0)
theorem dAll_kept (n : Nat) : ∀ l, dAll n l = (kept n l).flatMap dEvs
  | [] => rfl
  | d :: l => by
    have ih := dAll_kept n l
    by_cases h : dErr n d = 0
    · simp only [dAll, kept, List.flatMap_cons, List.filter_cons, decide_eq_true h, if_true, dEv, if_pos h] at ih ⊢
      rw [ih]
    · simp only [dAll, kept, List.flatMap_cons, List.filter_cons, decide_eq_false h, dEv, if_neg h, List.nil_append, Bool.false_eq_true, if_false] at ih ⊢
      rw [ih]
theorem take_one {α : Type} {l : List α} {d : α} {i : Nat} (h : i < l.length) : l.take (i + 1) = l.take i ++ [l.getD i d] := by
  rw [List.take_succ_eq_append_getElem h]
  have : l.getD i d = l[i] := by simp [List.getD_eq_getElem?_getD, List.getElem?_eq_getElem h]
  rw [this]
theorem drop_one {α : Type} {l : List α} {d : α} {i : Nat} (h : i < l.length) : l.drop i = l.getD i d :: l.drop (i + 1) := by
  rw [List.drop_eq_getElem_cons h]
  have : l.getD i d = l[i] := by simp [List.getD_eq_getElem?_getD, List.getElem?_eq_getElem h]
  rw [this]
theorem dAll_next (n : Nat) (l : List Deed) {i : Nat} (h : i < l.length) : dAll n (l.take (i + 1)) = dAll n (l.take i) ++ dEv n (l.getD i deed0) := by
  rw [take_one (d := deed0) h]; simp [dAll]
theorem kept_next (n : Nat) (l : List Deed) {i : Nat} (h : i < l.length) : kept n (l.take (i + 1)) = if dErr n (l.getD i deed0) = 0 then kept n (l.take i) ++ [l.getD i deed0] else kept n (l.take i) := by
  rw [take_one (d := deed0) h]
  by_cases h0 : dErr n (l.getD i deed0) = 0
  · rw [if_pos h0]; simp [kept, -List.getD_eq_getElem?_getD, h0]
  · rw [if_neg h0]; simp [kept, -List.getD_eq_getElem?_getD, h0]
theorem dEv_ok {e : Enc} (he : e.Ok) (d : Deed) : EvsOk e.st.length (dEv e.st.length d) ∧ (dEv e.st.length d).length ≤ 50 := by
  unfold dEv
  split
  · rename_i h
    unfold dErr at h
    unfold dEvs
    split at h
    · rename_i hi
      rw [if_pos hi]
      obtain ⟨h0, _, _, h1⟩ := ip_ok h
      exact ⟨h1, by rw [mv_len, idEvs_len]; omega⟩
    · rename_i hi
      rw [if_neg hi]
      obtain ⟨_, _, _, h1, h2⟩ := np_ok he h
      exact ⟨h1, by rw [mv_len]; exact h2⟩
  · exact ⟨fun x hx => absurd hx (by simp), by simp⟩
theorem dAll_ok {e : Enc} (he : e.Ok) : ∀ l, EvsOk e.st.length (dAll e.st.length l) ∧ (dAll e.st.length l).length ≤ 50 * l.length
  | [] => ⟨fun x hx => absurd hx (by simp [dAll]), by simp [dAll]⟩
  | d :: l => by
    obtain ⟨a, b⟩ := dEv_ok he d
    obtain ⟨a', b'⟩ := dAll_ok he l
    have e1 : dAll e.st.length (d :: l) = dEv e.st.length d ++ dAll e.st.length l := rfl
    rw [e1]
    refine ⟨fun x hx => ?_, by rw [List.length_append, List.length_cons]; omega⟩
    rcases List.mem_append.1 hx with h | h
    · exact a x h
    · exact a' x h
theorem encAll_dId {e : Enc} {d : Deed} (hi : d.2.2.2.1 = true) : encAll e (dEv e.st.length d) = ipEnc e d.2.1 d.2.2.1 d.1 := by
  have e1 : dErr e.st.length d = ipErr d.2.1 d.2.2.1 d.1 e.st.length := by rw [dErr, if_pos hi]
  have e2 : dEvs d = mv d.1.toNat (idEvs d.2.2.1.toNat d.2.1.toNat 1) := by rw [dEvs, if_pos hi]
  unfold dEv ipEnc
  rw [e1, e2]
  split <;> rfl
theorem encAll_dNum {e : Enc} {d : Deed} (hi : d.2.2.2.1 = false) : encAll e (dEv e.st.length d) = npEnc e d.2.2.2.2.1 d.2.2.2.2.2 d.1 := by
  have e1 : dErr e.st.length d = npErr d.2.2.2.2.1 d.2.2.2.2.2 d.1 e.st.length := by rw [dErr, if_neg (by rw [hi]; simp)]
  have e2 : dEvs d = mv d.1.toNat (numEv d.2.2.2.2.1 d.2.2.2.2.2) := by rw [dEvs, if_neg (by rw [hi]; simp)]
  unfold dEv npEnc
  rw [e1, e2]
  split <;> rfl
theorem of_feeds {d0 : Dec} : ∀ (l : List (Nat × Int)) (D D' : Dec), Of d0 D → EvsOk d0.st.length l → Feeds D l D' → Of d0 D'
  | [], D, D', h, _, hf => by simp only [Feeds] at hf; exact hf ▸ h
  | (c, b) :: l, D, D', h, hl, hf => by
    obtain ⟨_, _, h3⟩ := feeds_get hf
    exact of_feeds l _ D' (h.after (hl (c, b) (List.mem_cons_self ..)).1) (fun x hx => hl x (List.mem_cons_of_mem _ hx)) h3
theorem kept_mem {n : Nat} {l : List Deed} {d : Deed} (h : d ∈ kept n l) : dErr n d = 0 := by simpa [kept] using (List.mem_filter.1 h).2
theorem kept_len (n : Nat) (l : List Deed) : (kept n l).length ≤ l.length := List.length_filter_le _ _

theorem c_pNewNeg (kd : Int) (hk : KdOk kd) (n : Int) (hn : n < 0) : LCall Try.prog 52 [.int .i64 kd, .int .i64 n] [] fun r L =>
    r = .tup [.agg [.int .i64 0, .nilslice], .int .i64 2] ∧ L = [] := by
  have e1 : decide (n < 0) = true := decide_eq_true hn
  refine lcall_of_vc tyok Try.func52 rfl (by rfl) Try.results52 Try.ntmps52 ?_; intro C hD
  rcases hk with rfl | rfl
  all_goals
    simp (maxSteps := 2000000) only [↓vP0, vQ0, vT0, simprocAttr, e1]
    exact exit_keep (L1 := []) ⟨rfl, rfl⟩ (by simp [ren, rens, sg, sig, okIn, okIns, exK, leK, leF, leV, matK, objM, renO, roSame, lh, born, AObj.born, AObj.live, injOk, kindOf, rens_ints, okIns_ints, List.range, List.range.loop, mrg, mset]) trivial
theorem c_lSame (k : Int) (p : List Int) (hp : p.length ≤ 9223372036854775807) : LCall Try.prog 58 [.agg [.int .i64 k, .slice 0 0 p.length], .agg [.int .i64 k, .slice 1 0 p.length]] [.ro (ints .i64 p) 3, .ro (ints .i64 p) 3] fun r L =>
    r = .bool true ∧ L = [.ro (ints .i64 p) 3, .ro (ints .i64 p) 3] := by
  have hkeep : keepL 2 [AObj.ro (ints .i64 p) 3, .ro (ints .i64 p) 3] [AObj.ro (ints .i64 p) 3, .ro (ints .i64 p) 3] := ⟨⟨rfl, by rw [okIns_ints]; trivial⟩, ⟨rfl, by rw [okIns_ints]; trivial⟩, trivial⟩
  refine lcall_of_vc tyok Try.func58 rfl (by rfl) Try.results58 Try.ntmps58 ?_; intro C hD
  simp (maxSteps := 2000000) only [↓vP0, vQ0, vT0, simprocAttr]
  refine loopK_ren tyok hD (α := Nat) (fun i => i ≤ p.length) (fun i => p.length - i) (fun i => [.junk, .junk, .ptr 2 0, .ptr 3 0, .junk, .int .i64 i, .junk, .junk, .junk, .junk, .junk, .junk, .junk, .junk, .junk, .junk, .junk, .junk, .junk, .junk, .junk, .junk, .junk, .junk, .junk, .junk, .junk, .junk, .junk, .junk, .junk, .junk, .junk, .junk, .junk, .junk, .junk, .junk])
    (fun i => [.ro (ints .i64 p) 3, .ro (ints .i64 p) 3, .own [.int .i64 k, .slice 0 0 p.length] 60, .own [.int .i64 k, .slice 1 0 p.length] 60]) 0 (by omega) ⟨[2, 3], ?_⟩ ?_
  · simp only [leR]
    simp [ren, rens, sg, sig, okIn, okIns, exK, leK, leF, leV, matK, objM, renO, roSame, lh, born, AObj.born, AObj.live, injOk, kindOf, rens_ints, okIns_ints, List.range, List.range.loop, mrg, mset, leF, leV, leK]
  intro i hi
  simp (maxSteps := 2000000) only [↓vP0, vQ0, vT0, simprocAttr]
  (with_reducible first | refine condK_dec (fun h => ?_) (fun h => ?_) | refine condK_beq (fun h => ?_) (fun h => ?_) | refine condK_bne (fun h => ?_) (fun h => ?_) | refine condK_intro (fun h => ?_) (fun h => ?_))
  · have hg := ints_get .i64 p i (by omega)
    simp (maxSteps := 2000000) only [↓vP0, vQ0, vT0, simprocAttr]
    refine drawK_of tyok rfl (usL []) (fun i => .below 4) (by kernel_rfl) ?_
    simp (maxSteps := 2000000) only [↓vP0, vQ0, vT0, simprocAttr]
    refine chk_intro (by omega) ?_
    simp (maxSteps := 2000000) only [↓vP0, vQ0, vT0, simprocAttr, hg]
    refine chk_intro (by omega) ?_
    simp (maxSteps := 2000000) only [↓vP0, vQ0, vT0, simprocAttr, hg]
    simp (disch := omega) only [wr64, wru64, wru8, tdv, tmd, fdv]
    refine ⟨i + 1, by omega, by omega, [2, 3], ?_⟩
    simp only [leR, Int.natCast_add, Int.cast_ofNat_Int]
    simp [ren, rens, sg, sig, okIn, okIns, exK, leK, leF, leV, matK, objM, renO, roSame, lh, born, AObj.born, AObj.live, injOk, kindOf, rens_ints, okIns_ints, List.range, List.range.loop, mrg, mset, leF, leV, leK]
  · simp (maxSteps := 2000000) only [↓vP0, vQ0, vT0, simprocAttr]
    exact exit_keep (L1 := [.ro (ints .i64 p) 3, .ro (ints .i64 p) 3]) ⟨rfl, rfl⟩ trivial hkeep
end Go.Proofs.Ytbfefpkhalegmaa

set_option linter.unusedVariables false
set_option linter.unusedSimpArgs false
namespace Go.Proofs.Ytbfefpkhalegmaa
open Go
set_option maxHeartbeats 4000000
set_option maxRecDepth 20000

def sizeB (w h : Int) : Bool := decide (0 ≤ w) && decide (w ≤ 200) && decide (0 ≤ h) && decide (h ≤ 200) && decide (w * h ≤ 8192)
abbrev SizeOk (w h : Int) : Prop := 0 ≤ w ∧ w ≤ 200 ∧ 0 ≤ h ∧ h ≤ 200 ∧ w * h ≤ 8192
theorem sizeB_iff (w h : Int) : sizeB w h = true ↔ SizeOk w h := by simp [sizeB, and_assoc]
theorem area_bd {w h : Int} (a0 : 0 ≤ w) (a1 : w ≤ 200) (a2 : 0 ≤ h) (a3 : h ≤ 200) : 0 ≤ w * h ∧ w * h ≤ 40000 := by
  refine ⟨Int.mul_nonneg a0 a2, ?_⟩
  calc w * h ≤ 200 * 200 := Int.mul_le_mul a1 a3 a2 (by omega)
    _ = 40000 := by omega
theorem dT {p : Prop} [Decidable p] (h : p) : decide p = true := decide_eq_true h
theorem dN {p : Prop} [Decidable p] (h : ¬ p) : decide p = false := decide_eq_false h

theorem c_rIsSize (w h : Int) : LCall Try.prog 79 [.int .i64 w, .int .i64 h] [] fun r L => r = .bool (sizeB w h) ∧ L = [] := by
  refine lcall_of_vc tyok Try.func79 rfl (by rfl) Try.results79 Try.ntmps79 ?_; intro C hD
  by_cases a0 : 0 ≤ w
  · by_cases a1 : w ≤ 200
    · by_cases a2 : 0 ≤ h
      · by_cases a3 : h ≤ 200
        · have hm := area_bd a0 a1 a2 a3
          simp (maxSteps := 2000000) only [↓vP0, vQ0, vT0, simprocAttr, dT a0, dT a1, dT a2, dT a3]
          simp (disch := omega) only [wr64, wru64, wru8, tdv, tmd, fdv]
          exact exit_keep (L1 := []) ⟨by simp only [sizeB, dT a0, dT a1, dT a2, dT a3, Bool.true_and], rfl⟩ trivial trivial
        · simp (maxSteps := 2000000) only [↓vP0, vQ0, vT0, simprocAttr, dT a0, dT a1, dT a2, dN a3]
          exact exit_keep (L1 := []) ⟨by simp only [sizeB, dT a0, dT a1, dT a2, dN a3, Bool.true_and, Bool.false_and, Bool.and_false], rfl⟩ trivial trivial
      · simp (maxSteps := 2000000) only [↓vP0, vQ0, vT0, simprocAttr, dT a0, dT a1, dN a2]
        exact exit_keep (L1 := []) ⟨by simp only [sizeB, dT a0, dT a1, dN a2, Bool.true_and, Bool.false_and, Bool.and_false], rfl⟩ trivial trivial
    · simp (maxSteps := 2000000) only [↓vP0, vQ0, vT0, simprocAttr, dT a0, dN a1]
      exact exit_keep (L1 := []) ⟨by simp only [sizeB, dT a0, dN a1, Bool.true_and, Bool.false_and, Bool.and_false], rfl⟩ trivial trivial
  · simp (maxSteps := 2000000) only [↓vP0, vQ0, vT0, simprocAttr, dN a0]
    exact exit_keep (L1 := []) ⟨by simp only [sizeB, dN a0, Bool.true_and, Bool.false_and, Bool.and_false], rfl⟩ trivial trivial

theorem c_bfits (w h : Int) : LCall Try.prog 122 [.int .i64 w, .int .i64 h] [] fun r L => r = .bool (sizeB w h) ∧ L = [] := by
  refine lcall_of_vc tyok Try.func122 rfl (by rfl) Try.results122 Try.ntmps122 ?_; intro C hD
  by_cases a0 : 0 ≤ w
  · by_cases a2 : 0 ≤ h
    · by_cases a1 : w ≤ 200
      · by_cases a3 : h ≤ 200
        · have hm := area_bd a0 a1 a2 a3
          simp (maxSteps := 2000000) only [↓vP0, vQ0, vT0, simprocAttr, dT a0, dT a1, dT a2, dT a3]
          simp (disch := omega) only [wr64, wru64, wru8, tdv, tmd, fdv]
          exact exit_keep (L1 := []) ⟨by simp only [sizeB, dT a0, dT a1, dT a2, dT a3, Bool.true_and], rfl⟩ trivial trivial
        · simp (maxSteps := 2000000) only [↓vP0, vQ0, vT0, simprocAttr, dT a0, dT a1, dT a2, dN a3]
          exact exit_keep (L1 := []) ⟨by simp only [sizeB, dT a0, dT a1, dT a2, dN a3, Bool.true_and, Bool.false_and, Bool.and_false], rfl⟩ trivial trivial
      · simp (maxSteps := 2000000) only [↓vP0, vQ0, vT0, simprocAttr, dT a0, dT a2, dN a1]
        exact exit_keep (L1 := []) ⟨by simp only [sizeB, dT a0, dN a1, Bool.true_and, Bool.false_and, Bool.and_false], rfl⟩ trivial trivial
    · simp (maxSteps := 2000000) only [↓vP0, vQ0, vT0, simprocAttr, dT a0, dN a2]
      exact exit_keep (L1 := []) ⟨by simp only [sizeB, dT a0, dN a2, Bool.true_and, Bool.false_and, Bool.and_false], rfl⟩ trivial trivial
  · simp (maxSteps := 2000000) only [↓vP0, vQ0, vT0, simprocAttr, dN a0]
    exact exit_keep (L1 := []) ⟨by simp only [sizeB, dN a0, Bool.true_and, Bool.false_and, Bool.and_false], rfl⟩ trivial trivial

theorem c_r8size (t : Int) : LCall Try.prog 76 [.int .i64 t] [] fun r L => r = .int .i64 (if t = 0 then 513 else 129) ∧ L = [] := by
  refine lcall_of_vc tyok Try.func76 rfl (by rfl) Try.results76 Try.ntmps76 ?_; intro C hD
  simp (maxSteps := 2000000) only [↓vP0, vQ0, vT0, simprocAttr]
  (with_reducible first | refine condK_dec (fun h => ?_) (fun h => ?_) | refine condK_beq (fun h => ?_) (fun h => ?_) | refine condK_bne (fun h => ?_) (fun h => ?_) | refine condK_intro (fun h => ?_) (fun h => ?_))
  · simp (maxSteps := 2000000) only [↓vP0, vQ0, vT0, simprocAttr]
    exact exit_keep (L1 := []) ⟨by rw [if_pos h], rfl⟩ trivial trivial
  · simp (maxSteps := 2000000) only [↓vP0, vQ0, vT0, simprocAttr]
    exact exit_keep (L1 := []) ⟨by rw [if_neg h], rfl⟩ trivial trivial

theorem c_r8Size (t : Int) : LCall Try.prog 25 [.int .i64 t] [] fun r L => r = .tup [.int .i64 (if t = 0 then 513 else if t = 1 then 129 else 0), .int .i64 (if t = 0 ∨ t = 1 then 0 else 2)] ∧ L = [] := by
  refine lcall_of_vc tyok Try.func25 rfl (by rfl) Try.results25 Try.ntmps25 ?_; intro C hD
  by_cases h0 : t < 0
  · simp (maxSteps := 2000000) only [↓vP0, vQ0, vT0, simprocAttr, dT h0]
    exact exit_keep (L1 := []) ⟨by rw [if_neg (by omega), if_neg (by omega), if_neg (by omega)], rfl⟩ ⟨trivial, trivial, trivial⟩ trivial
  · by_cases h1 : 1 < t
    · simp (maxSteps := 2000000) only [↓vP0, vQ0, vT0, simprocAttr, dN h0, dT h1]
      exact exit_keep (L1 := []) ⟨by rw [if_neg (by omega), if_neg (by omega), if_neg (by omega)], rfl⟩ ⟨trivial, trivial, trivial⟩ trivial
    · simp (maxSteps := 2000000) only [↓vP0, vQ0, vT0, simprocAttr, dN h0, dN h1]
      refine callK_pure (c_r8size t) rfl rfl ?_
      simp (maxSteps := 2000000) only [↓vP0, vQ0, vT0, simprocAttr]
      refine exit_keep (L1 := []) ⟨?_, rfl⟩ ⟨trivial, trivial, trivial⟩ trivial
      by_cases e : t = 0
      · subst e; rfl
      · have : t = 1 := by omega
        subst this; rfl

def freshN (t : Int) : List Int := if t = 0 then [-1, -1, 0, -1, 1, -1, -1, 0] else [0, -1, -1, 0]
theorem c_fresh (t : Int) : LCall Try.prog 120 [.int .i64 t] [] fun r L =>
    r = .slice 0 0 (if t = 0 then 4 else 2) ∧ L = [.own (ints .i64 (freshN t)) 162] := by
  refine lcall_of_vc tyok Try.func120 rfl (by rfl) Try.results120 Try.ntmps120 ?_; intro C hD
  simp (maxSteps := 2000000) only [↓vP0, vQ0, vT0, simprocAttr]
  (with_reducible first | refine condK_dec (fun h => ?_) (fun h => ?_) | refine condK_beq (fun h => ?_) (fun h => ?_) | refine condK_bne (fun h => ?_) (fun h => ?_) | refine condK_intro (fun h => ?_) (fun h => ?_))
  · subst h
    simp (maxSteps := 2000000) only [↓vP0, vQ0, vT0, simprocAttr]
    refine exit_of [0] (.slice 0 0 4) [.own (ints .i64 [-1, -1, 0, -1, 1, -1, -1, 0]) 162] ⟨rfl, rfl⟩ ?_ ?_ rfl ?_ ?_
    all_goals simp [ren, rens, sg, sig, okIn, okIns, exK, leK, leF, leV, matK, objM, renO, roSame, lh, born, AObj.born, AObj.live, injOk, kindOf, rens_ints, okIns_ints, List.range, List.range.loop, mrg, mset, ints]
  · simp (maxSteps := 2000000) only [↓vP0, vQ0, vT0, simprocAttr]
    refine exit_of [0] (.slice 0 0 2) [.own (ints .i64 [0, -1, -1, 0]) 162] ⟨by rw [if_neg h], by rw [freshN, if_neg h]⟩ ?_ ?_ rfl ?_ ?_
    all_goals simp [ren, rens, sg, sig, okIn, okIns, exK, leK, leF, leV, matK, objM, renO, roSame, lh, born, AObj.born, AObj.live, injOk, kindOf, rens_ints, okIns_ints, List.range, List.range.loop, mrg, mset, ints]
theorem c_beside : LCall Try.prog 123 [] [] fun r L =>
    r = .slice 0 0 5 ∧ L = [.own (ints .i64 [0, 0, -1, 0, 1, 0, 0, -1, 0, 1]) 162] := by
  refine lcall_of_vc tyok Try.func123 rfl (by rfl) Try.results123 Try.ntmps123 ?_; intro C hD
  simp (maxSteps := 2000000) only [↓vP0, vQ0, vT0, simprocAttr]
  refine exit_of [0] (.slice 0 0 5) [.own (ints .i64 [0, 0, -1, 0, 1, 0, 0, -1, 0, 1]) 162] ⟨rfl, rfl⟩ ?_ ?_ rfl ?_ ?_
  all_goals simp [ren, rens, sg, sig, okIn, okIns, exK, leK, leF, leV, matK, objM, renO, roSame, lh, born, AObj.born, AObj.live, injOk, kindOf, rens_ints, okIns_ints, List.range, List.range.loop, mrg, mset, ints]
theorem c_contexts (t : Int) (ht : t = 0 ∨ t = 1) : LCall Try.prog 75 [.int .i64 t] [] fun r L => r = .int .i64 (if t = 0 then 512 else 128) ∧ L = [] := by
  rcases ht with rfl | rfl
  · refine lcall_of_vc tyok Try.func75 rfl (by rfl) Try.results75 Try.ntmps75 ?_; intro C hD
    simp (maxSteps := 2000000) only [↓vP0, vQ0, vT0, simprocAttr]
    refine callK_det (c_fresh 0) [] ?_ ?_ ?_ rfl (by simp) ?_
    · simp [ren, rens, sg, sig, okIn, okIns, exK, leK, leF, leV, matK, objM, renO, roSame, lh, born, AObj.born, AObj.live, injOk, kindOf, rens_ints, okIns_ints, List.range, List.range.loop, mrg, mset]
    · simp [ren, rens, sg, sig, okIn, okIns, exK, leK, leF, leV, matK, objM, renO, roSame, lh, born, AObj.born, AObj.live, injOk, kindOf, rens_ints, okIns_ints, List.range, List.range.loop, mrg, mset]
    · simp [ren, rens, sg, sig, okIn, okIns, exK, leK, leF, leV, matK, objM, renO, roSame, lh, born, AObj.born, AObj.live, injOk, kindOf, rens_ints, okIns_ints, List.range, List.range.loop, mrg, mset]
    simp (maxSteps := 2000000) only [↓vP0, vQ0, vT0, simprocAttr]
    exact exit_keep (L1 := []) ⟨rfl, rfl⟩ trivial trivial
  · refine lcall_of_vc tyok Try.func75 rfl (by rfl) Try.results75 Try.ntmps75 ?_; intro C hD
    simp (maxSteps := 2000000) only [↓vP0, vQ0, vT0, simprocAttr]
    refine callK_det (c_fresh 1) [] ?_ ?_ ?_ rfl (by simp) ?_
    · simp [ren, rens, sg, sig, okIn, okIns, exK, leK, leF, leV, matK, objM, renO, roSame, lh, born, AObj.born, AObj.live, injOk, kindOf, rens_ints, okIns_ints, List.range, List.range.loop, mrg, mset]
    · simp [ren, rens, sg, sig, okIn, okIns, exK, leK, leF, leV, matK, objM, renO, roSame, lh, born, AObj.born, AObj.live, injOk, kindOf, rens_ints, okIns_ints, List.range, List.range.loop, mrg, mset]
    · simp [ren, rens, sg, sig, okIn, okIns, exK, leK, leF, leV, matK, objM, renO, roSame, lh, born, AObj.born, AObj.live, injOk, kindOf, rens_ints, okIns_ints, List.range, List.range.loop, mrg, mset]
    simp (maxSteps := 2000000) only [↓vP0, vQ0, vT0, simprocAttr]
    exact exit_keep (L1 := []) ⟨rfl, rfl⟩ trivial trivial
theorem c_pSize (t : Int) : LCall Try.prog 24 [.int .i64 t] [] fun r L => r = .tup [.int .i64 (if t = 0 then 513 else if t = 1 then 129 else 0), .int .i64 (if t = 0 ∨ t = 1 then 0 else 2)] ∧ L = [] := by
  refine lcall_of_vc tyok Try.func24 rfl (by rfl) Try.results24 Try.ntmps24 ?_; intro C hD
  by_cases h0 : t = 0
  · subst h0
    simp (maxSteps := 2000000) only [↓vP0, vQ0, vT0, simprocAttr]
    refine callK_pure (c_contexts 0 (.inl rfl)) rfl rfl ?_
    simp (maxSteps := 2000000) only [↓vP0, vQ0, vT0, simprocAttr]
    exact exit_keep (L1 := []) ⟨rfl, rfl⟩ ⟨trivial, trivial, trivial⟩ trivial
  · by_cases h1 : t = 1
    · subst h1
      simp (maxSteps := 2000000) only [↓vP0, vQ0, vT0, simprocAttr]
      refine callK_pure (c_contexts 1 (.inr rfl)) rfl rfl ?_
      simp (maxSteps := 2000000) only [↓vP0, vQ0, vT0, simprocAttr]
      exact exit_keep (L1 := []) ⟨rfl, rfl⟩ ⟨trivial, trivial, trivial⟩ trivial
    · have e0 : (t != 0) = true := by simpa using h0
      have e1 : (t != 1) = true := by simpa using h1
      simp (maxSteps := 2000000) only [↓vP0, vQ0, vT0, simprocAttr, e0, e1]
      exact exit_keep (L1 := []) ⟨by rw [if_neg h0, if_neg h1, if_neg (by omega)], rfl⟩ ⟨trivial, trivial, trivial⟩ trivial

abbrev pixL (p : List Int) : List AObj := [.ro (ints .u8 p) 5]
def rowB (p : List Int) : Bool := p.all fun x => decide (x ≤ 1)
theorem pix_keep (p : List Int) : keepL 1 (pixL p) (pixL p) := ⟨⟨rfl, by rw [okIns_ints]; trivial⟩, trivial⟩
theorem all_take_succ {p : List Int} {i : Nat} {f : Int → Bool} (hi : i < p.length) (h : (p.take i).all f = true) (hx : f (p.getD i 0) = true) : (p.take (i + 1)).all f = true := by
  rw [List.take_succ_eq_append_getElem hi, List.all_append, h]
  have e1 : p.getD i 0 = p[i] := by simp [List.getD_eq_getElem?_getD, List.getElem?_eq_getElem hi]
  rw [← e1]; simp only [List.all_cons, List.all_nil, hx, Bool.and_true]
theorem all_false {p : List Int} {i : Nat} {f : Int → Bool} (hi : i < p.length) (hx : f (p.getD i 0) = false) : p.all f = false := by
  rw [List.all_eq_false]
  have e1 : p.getD i 0 = p[i] := by simp [List.getD_eq_getElem?_getD, List.getElem?_eq_getElem hi]
  exact ⟨p[i], List.getElem_mem hi, by rw [← e1, hx]; simp⟩
theorem c_rIsRow (p : List Int) (hp : p.length ≤ 9223372036854775807) : LCall Try.prog 80 [.slice 0 0 p.length] (pixL p) fun r L => r = .bool (rowB p) ∧ L = pixL p := by
  refine lcall_of_vc tyok Try.func80 rfl (by rfl) Try.results80 Try.ntmps80 ?_; intro C hD
  simp (maxSteps := 2000000) only [↓vP0, vQ0, vT0, simprocAttr]
  refine loopK_of tyok hD (α := Nat) (fun i => i ≤ p.length ∧ (p.take i).all (fun x => decide (x ≤ 1)) = true) (fun i => p.length - i) (fun i => [.junk, .junk, .junk, .junk, .junk, .slice 0 0 p.length, .int .i64 p.length, .int .i64 i, .junk, .junk, .junk, .junk, .junk, .junk])
    (fun i => pixL p) 0 ⟨by omega, by simp⟩ ?_ ?_
  · (refine ⟨by simp [leF, leV] <;> rfl, ⟨_, by first | rfl | exact (List.append_nil _).symm⟩, by simp, by simp [okIns, okIn, okIns_ints], by simp [AObj.born, okIns, okIn, AObj.cells, okIns_ints]⟩)
  rintro i ⟨hi, htk⟩
  simp (maxSteps := 2000000) only [↓vP0, vQ0, vT0, simprocAttr]
  (with_reducible first | refine condK_dec (fun h => ?_) (fun h => ?_) | refine condK_beq (fun h => ?_) (fun h => ?_) | refine condK_bne (fun h => ?_) (fun h => ?_) | refine condK_intro (fun h => ?_) (fun h => ?_))
  · have hil : i < p.length := by omega
    have g1 := ints_get .u8 p i hil
    simp (maxSteps := 2000000) only [↓vP0, vQ0, vT0, simprocAttr]
    refine chk_intro (by omega) ?_
    simp (maxSteps := 2000000) only [↓vP0, vQ0, vT0, simprocAttr, g1]
    (with_reducible first | refine condK_dec (fun h => ?_) (fun h => ?_) | refine condK_beq (fun h => ?_) (fun h => ?_) | refine condK_bne (fun h => ?_) (fun h => ?_) | refine condK_intro (fun h => ?_) (fun h => ?_))
    · simp (maxSteps := 2000000) only [↓vP0, vQ0, vT0, simprocAttr]
      exact exit_keep0 ⟨by rw [rowB, all_false hil (dN (by omega))], rfl⟩ trivial (pix_keep p)
    · simp (maxSteps := 2000000) only [↓vP0, vQ0, vT0, simprocAttr]
      simp (disch := omega) only [wr64, wru64, wru8, tdv, tmd, fdv]
      refine ⟨i + 1, ⟨by omega, all_take_succ hil htk (dT (by omega))⟩, by omega, ?_⟩
      simp only [Int.natCast_add, Int.cast_ofNat_Int]
      (refine ⟨by simp [leF, leV] <;> rfl, ⟨_, by first | rfl | exact (List.append_nil _).symm⟩, by simp, by simp [okIns, okIn, okIns_ints], by simp [AObj.born, okIns, okIn, AObj.cells, okIns_ints]⟩)
  · have hil : i = p.length := by omega
    subst hil
    rw [List.take_length] at htk
    simp (maxSteps := 2000000) only [↓vP0, vQ0, vT0, simprocAttr]
    exact exit_keep0 ⟨by rw [rowB, htk], rfl⟩ trivial (pix_keep p)
end Go.Proofs.Ytbfefpkhalegmaa

set_option linter.unusedVariables false
set_option linter.unusedSimpArgs false
namespace Go.Proofs.Ytbfefpkhalegmaa
open Go
set_option maxHeartbeats 4000000
set_option maxRecDepth 20000

abbrev optV (t dx dy : Int) (ty : Bool) (kd : Int) : AV := .agg [.int .i64 t, .int .i64 dx, .int .i64 dy, .bool ty, .int .i64 kd]
abbrev I64 (n : Int) : Prop := -9223372036854775808 ≤ n ∧ n ≤ 9223372036854775807
abbrev OptOk (t dx dy kd : Int) : Prop := (t = 0 ∨ t = 1) ∧ (kd = 0 ∨ kd = 1) ∧ -200 ≤ dx ∧ dx ≤ 200 ∧ -200 ≤ dy ∧ dy ≤ 200
theorem ge0 {n : Int} : (n = 0 ∨ n = 1) ↔ (0 ≤ n ∧ n ≤ 1) := by omega
theorem c_rRefValid (t dx dy : Int) (ty : Bool) (kd : Int) : LCall Try.prog 27 [optV t dx dy ty kd] [] fun r L => r = .bool (decide (OptOk t dx dy kd)) ∧ L = [] := by
  refine lcall_of_vc tyok Try.func27 rfl (by rfl) Try.results27 Try.ntmps27 ?_; intro C hD
  by_cases a0 : -200 ≤ dx
  · by_cases a1 : dx ≤ 200
    · by_cases a2 : -200 ≤ dy
      · by_cases a3 : dy ≤ 200
        · by_cases a4 : 0 ≤ t
          · by_cases a5 : t ≤ 1
            · by_cases a6 : 0 ≤ kd
              · simp (maxSteps := 2000000) only [↓vP0, vQ0, vT0, simprocAttr, dT a0, dT a1, dT a2, dT a3, dT a4, dT a5, dT a6]
                refine exit_keep (L1 := []) ⟨?_, rfl⟩ trivial trivial
                by_cases a7 : kd ≤ 1
                · rw [dT a7, dT (by omega)]
                · rw [dN a7, dN (by omega)]
              · simp (maxSteps := 2000000) only [↓vP0, vQ0, vT0, simprocAttr, dT a0, dT a1, dT a2, dT a3, dT a4, dT a5, dN a6]
                exact exit_keep (L1 := []) ⟨by rw [dN (by omega)], rfl⟩ trivial trivial
            · simp (maxSteps := 2000000) only [↓vP0, vQ0, vT0, simprocAttr, dT a0, dT a1, dT a2, dT a3, dT a4, dN a5]
              exact exit_keep (L1 := []) ⟨by rw [dN (by omega)], rfl⟩ trivial trivial
          · simp (maxSteps := 2000000) only [↓vP0, vQ0, vT0, simprocAttr, dT a0, dT a1, dT a2, dT a3, dN a4]
            exact exit_keep (L1 := []) ⟨by rw [dN (by omega)], rfl⟩ trivial trivial
        · simp (maxSteps := 2000000) only [↓vP0, vQ0, vT0, simprocAttr, dT a0, dT a1, dT a2, dN a3]
          exact exit_keep (L1 := []) ⟨by rw [dN (by omega)], rfl⟩ trivial trivial
      · simp (maxSteps := 2000000) only [↓vP0, vQ0, vT0, simprocAttr, dT a0, dT a1, dN a2]
        exact exit_keep (L1 := []) ⟨by rw [dN (by omega)], rfl⟩ trivial trivial
    · simp (maxSteps := 2000000) only [↓vP0, vQ0, vT0, simprocAttr, dT a0, dN a1]
      exact exit_keep (L1 := []) ⟨by rw [dN (by omega)], rfl⟩ trivial trivial
  · simp (maxSteps := 2000000) only [↓vP0, vQ0, vT0, simprocAttr, dN a0]
    exact exit_keep (L1 := []) ⟨by rw [dN (by omega)], rfl⟩ trivial trivial
theorem c_pRefValid (t dx dy : Int) (hx : I64 dx) (hy : I64 dy) (ty : Bool) (kd : Int) : LCall Try.prog 26 [optV t dx dy ty kd] [] fun r L => r = .bool (decide (OptOk t dx dy kd)) ∧ L = [] := by
  have fin : ∀ (hk : kd = 0 ∨ kd = 1) (ht : t = 0 ∨ t = 1) (hm : -200 ≤ min dx dy) (f : Int), f = max (max (max dx (-dx)) dy) (-dy) → decide (f ≤ 200) = decide (OptOk t dx dy kd) := by
    intro hk ht hm f hf
    by_cases hq : f ≤ 200
    · rw [dT hq, dT (by omega)]
    · rw [dN hq, dN (by omega)]
  by_cases h0 : t = 0
  · subst h0
    refine lcall_of_vc tyok Try.func26 rfl (by rfl) Try.results26 Try.ntmps26 ?_; intro C hD
    by_cases k0 : kd = 0
    · subst k0
      by_cases hm : -200 ≤ min dx dy
      · simp (maxSteps := 2000000) only [↓vP0, vQ0, vT0, simprocAttr, dT hm]
        refine exit_keep (L1 := []) ⟨?_, rfl⟩ trivial trivial
        rw [← fin (by omega) (by omega) hm _ rfl]
        simp (disch := omega) only [wr64, wru64, wru8, tdv, tmd, fdv]
        simp only [Int.zero_sub]
        done
      · simp (maxSteps := 2000000) only [↓vP0, vQ0, vT0, simprocAttr, dN hm]
        exact exit_keep (L1 := []) ⟨by rw [dN (by omega)], rfl⟩ trivial trivial
    · by_cases k1 : kd = 1
      · subst k1
        by_cases hm : -200 ≤ min dx dy
        · simp (maxSteps := 2000000) only [↓vP0, vQ0, vT0, simprocAttr, dT hm]
          refine exit_keep (L1 := []) ⟨?_, rfl⟩ trivial trivial
          rw [← fin (by omega) (by omega) hm _ rfl]
          simp (disch := omega) only [wr64, wru64, wru8, tdv, tmd, fdv]
          simp only [Int.zero_sub]
          done
        · simp (maxSteps := 2000000) only [↓vP0, vQ0, vT0, simprocAttr, dN hm]
          exact exit_keep (L1 := []) ⟨by rw [dN (by omega)], rfl⟩ trivial trivial
      · have e0 : (kd == 0) = false := by simpa using k0
        have e1 : (kd == 1) = false := by simpa using k1
        simp (maxSteps := 2000000) only [↓vP0, vQ0, vT0, simprocAttr, e0, e1]
        exact exit_keep (L1 := []) ⟨by rw [dN (by omega)], rfl⟩ trivial trivial
  by_cases h1 : t = 1
  · subst h1
    refine lcall_of_vc tyok Try.func26 rfl (by rfl) Try.results26 Try.ntmps26 ?_; intro C hD
    by_cases k0 : kd = 0
    · subst k0
      by_cases hm : -200 ≤ min dx dy
      · simp (maxSteps := 2000000) only [↓vP0, vQ0, vT0, simprocAttr, dT hm]
        refine exit_keep (L1 := []) ⟨?_, rfl⟩ trivial trivial
        rw [← fin (by omega) (by omega) hm _ rfl]
        simp (disch := omega) only [wr64, wru64, wru8, tdv, tmd, fdv]
        simp only [Int.zero_sub]
        done
      · simp (maxSteps := 2000000) only [↓vP0, vQ0, vT0, simprocAttr, dN hm]
        exact exit_keep (L1 := []) ⟨by rw [dN (by omega)], rfl⟩ trivial trivial
    · by_cases k1 : kd = 1
      · subst k1
        by_cases hm : -200 ≤ min dx dy
        · simp (maxSteps := 2000000) only [↓vP0, vQ0, vT0, simprocAttr, dT hm]
          refine exit_keep (L1 := []) ⟨?_, rfl⟩ trivial trivial
          rw [← fin (by omega) (by omega) hm _ rfl]
          simp (disch := omega) only [wr64, wru64, wru8, tdv, tmd, fdv]
          simp only [Int.zero_sub]
          done
        · simp (maxSteps := 2000000) only [↓vP0, vQ0, vT0, simprocAttr, dN hm]
          exact exit_keep (L1 := []) ⟨by rw [dN (by omega)], rfl⟩ trivial trivial
      · have e0 : (kd == 0) = false := by simpa using k0
        have e1 : (kd == 1) = false := by simpa using k1
        simp (maxSteps := 2000000) only [↓vP0, vQ0, vT0, simprocAttr, e0, e1]
        exact exit_keep (L1 := []) ⟨by rw [dN (by omega)], rfl⟩ trivial trivial
  have e0 : (t == 0) = false := by simpa using h0
  have e1 : (t == 1) = false := by simpa using h1
  refine lcall_of_vc tyok Try.func26 rfl (by rfl) Try.results26 Try.ntmps26 ?_; intro C hD
  simp (maxSteps := 2000000) only [↓vP0, vQ0, vT0, simprocAttr, e0, e1]
  exact exit_keep (L1 := []) ⟨by rw [dN (by omega)], rfl⟩ trivial trivial

/-- A bitmap: W, H, Pix in object k. -/
abbrev bmV (w h : Int) (k n : Nat) : AV := .agg [.int .i64 w, .int .i64 h, .slice k 0 n]
def bmB (w h : Int) (p : List Int) : Bool := sizeB w h && decide ((p.length : Int) = w * h) && rowB p
theorem c_rIsBitmap (w h : Int) (p : List Int) (hp : p.length ≤ 9223372036854775807) : LCall Try.prog 35 [bmV w h 0 p.length] (pixL p) fun r L => r = .bool (bmB w h p) ∧ L = pixL p := by
  refine lcall_of_vc tyok Try.func35 rfl (by rfl) Try.results35 Try.ntmps35 ?_; intro C hD
  simp (maxSteps := 2000000) only [↓vP0, vQ0, vT0, simprocAttr]
  refine callK_pure (c_rIsSize w h) rfl rfl ?_
  by_cases a0 : sizeB w h = true
  · have hs := (sizeB_iff w h).1 a0
    have hm := area_bd hs.1 hs.2.1 hs.2.2.1 hs.2.2.2.1
    have ew : IntKind.i64.wrap (w * h) = w * h := by simp (disch := omega) only [wr64, wru64, wru8, tdv, tmd, fdv]
    simp (maxSteps := 2000000) only [↓vP0, vQ0, vT0, simprocAttr, a0]
    by_cases a1 : (p.length : Int) = w * h
    · have e1 : ((p.length : Int) == w * h) = true := by simpa using a1
      simp (maxSteps := 2000000) only [↓vP0, vQ0, vT0, simprocAttr, ew, e1]
      refine callK_read (c_rIsRow p hp) [0] ?_ ?_ ?_ rfl ?_
      · simp [ren, rens, sg, sig, okIn, okIns, exK, leK, leF, leV, matK, objM, renO, roSame, lh, born, AObj.born, AObj.live, injOk, kindOf, rens_ints, okIns_ints, List.range, List.range.loop, mrg, mset]
      · simp [ren, rens, sg, sig, okIn, okIns, exK, leK, leF, leV, matK, objM, renO, roSame, lh, born, AObj.born, AObj.live, injOk, kindOf, rens_ints, okIns_ints, List.range, List.range.loop, mrg, mset]
      · simp [ren, rens, sg, sig, okIn, okIns, exK, leK, leF, leV, matK, objM, renO, roSame, lh, born, AObj.born, AObj.live, injOk, kindOf, rens_ints, okIns_ints, List.range, List.range.loop, mrg, mset]
      simp (maxSteps := 2000000) only [↓vP0, vQ0, vT0, simprocAttr]
      exact exit_keep (L1 := pixL p) ⟨by simp only [bmB, a0, dT a1, Bool.true_and], rfl⟩ trivial (pix_keep p)
    · have e1 : ((p.length : Int) == w * h) = false := by simpa using a1
      simp (maxSteps := 2000000) only [↓vP0, vQ0, vT0, simprocAttr, ew, e1]
      exact exit_keep (L1 := pixL p) ⟨by simp only [bmB, dN a1, Bool.and_false, Bool.false_and], rfl⟩ trivial (pix_keep p)
  · have a1 : sizeB w h = false := by simpa using a0
    simp (maxSteps := 2000000) only [↓vP0, vQ0, vT0, simprocAttr, a1]
    exact exit_keep (L1 := pixL p) ⟨by simp only [bmB, a1, Bool.false_and], rfl⟩ trivial (pix_keep p)
end Go.Proofs.Ytbfefpkhalegmaa

set_option linter.unusedVariables false
set_option linter.unusedSimpArgs false
namespace Go.Proofs.Ytbfefpkhalegmaa
open Go Go.RowKit Go.ChangeShapes Go.WideShapes
set_option maxRecDepth 100000

def partsOne (P : Program) (fs : Array Field) : Bool := (List.range fs.size).all fun i => match fs[i]? with | some f => f.offset == i && P.cellsOf f.type == 1 | none => false
theorem open_parts {H : Type} {enc : TypeId × Value → H} {P : Program} {W : World} {base : Nat} {spare : Nat → Bool} {held : Bool} {fuel : Nat} {t : TypeId} {cs : List Value} {x : DataW H × List MemPlace} {fs : Array Field}
    (hs : P.underlying t = some (.struct fs)) (hone : partsOne P fs = true) (h : DataW.trod enc P W base spare held fuel t cs = some x) :
    cs.length = P.cellsOf t ∧ ∀ (j : Nat) (f : Field) (c : Value), fs[j]? = some f → cs[j]? = some c → ∃ n y, DataW.trod enc P W base spare held n f.type [c] = some y := by
  obtain ⟨xs, n, _, _, hlen, hxs, hf⟩ := DataW.trod_struct hs h
  refine ⟨hlen, fun j f c hj hc => ?_⟩
  have hjl := (Array.getElem?_eq_some_iff.1 hj).1
  have h1 := List.all_eq_true.1 hone j (List.mem_range.2 hjl)
  rw [hj] at h1
  simp only [Bool.and_eq_true, beq_iff_eq] at h1
  have h2 := hf j f hj
  rw [h1.1, h1.2] at h2
  have hcl := (List.getElem?_eq_some_iff.1 hc)
  rw [List.drop_eq_getElem_cons hcl.1, hcl.2] at h2
  have hx : xs[j]? = some (xs[j]'(by omega)) := List.getElem?_eq_getElem (by omega)
  exact ⟨n, _, h2.trans hx⟩
theorem parts_agg {P : Program} {W : World} {r : Reach} {b0 : Nat} {t : TypeId} {fs : Array Field} {v : Value} (hs : P.underlying t = some (.struct fs)) (hv : Value.okWide P W r b0 t v) : ∃ l : List Value, v = .agg l.toArray ∧ l.length = P.cellsOf t ∧ v.cells.toList = l := by
  obtain ⟨cs, rfl, hsz⟩ := okWide_struct hs hv
  exact ⟨cs.toList, by simp, by simpa using hsz, by simp [Value.cells]⟩
theorem row_one {k : IntKind} {W : World} {H : Type} {enc : TypeId × Value → H} {P : Program} {fuel : Nat} {t e : TypeId} {c : Value} {x : DataW H × List MemPlace} (ht : P.underlying t = some (.slice e)) (he : P.underlying e = some (.int k)) (hc : P.cellsOf e = 1)
    (h : DataW.trod enc P W 0 (fun _ => true) true fuel t [c] = some x) : ∃ a len cap zs, c = .slice a len cap ∧ IsRow k W a len cap zs := by
  rcases open_ints ht he hc h with ⟨hcs, _⟩ | ⟨x, l, c', zs, hcs, _, hl, hm, hz, _, hcell, hwz⟩
  · simp at hcs; subst hcs
    exact ⟨none, 0, 0, [], rfl, .inl ⟨rfl, rfl, rfl, rfl⟩⟩
  · simp at hcs; subst hcs
    exact ⟨some x, l, c', zs, rfl, .inr ⟨_, rfl, hl, hm, by simpa using hz, hcell, hwz⟩⟩

theorem row_refine {W : World} {H : Type} {enc : TypeId × Value → H} {r : Reach} {b0 : Nat} {v : Value} {d : DataW H} {ps : List MemPlace} (hv : Value.okWide Try.prog W r b0 43 v)
    (h : DataW.Trod enc Try.prog W 0 (fun _ => true) true 43 v d ps) :
    ∃ (t dx dy : Int) (ty : Bool) (kd : Int), v = .agg #[.int .i64 t, .int .i64 dx, .int .i64 dy, .bool ty, .int .i64 kd] ∧ I64 t ∧ I64 dx ∧ I64 dy ∧ I64 kd := by
  obtain ⟨l, rfl, hl, hcl⟩ := parts_agg Try.underlying43 hv
  obtain ⟨fuel, hf⟩ := h
  obtain ⟨_, hp⟩ := open_parts Try.underlying43 (by kernel_rfl) hf
  rw [hcl] at hp
  have hl5 : l.length = 5 := hl.trans (by kernel_rfl)
  match l, hl5 with
  | [c0, c1, c2, c3, c4], _ =>
    obtain ⟨_, _, h0⟩ := hp 0 _ c0 rfl rfl
    obtain ⟨_, _, h1⟩ := hp 1 _ c1 rfl rfl
    obtain ⟨_, _, h2⟩ := hp 2 _ c2 rfl rfl
    obtain ⟨_, _, h3⟩ := hp 3 _ c3 rfl rfl
    obtain ⟨_, _, h4⟩ := hp 4 _ c4 rfl rfl
    obtain ⟨n0, e0, _, w0⟩ := DataW.trod_int Try.underlying3 h0
    obtain ⟨n1, e1, _, w1⟩ := DataW.trod_int Try.underlying3 h1
    obtain ⟨n2, e2, _, w2⟩ := DataW.trod_int Try.underlying3 h2
    obtain ⟨n3, e3, _⟩ := DataW.trod_bool Try.underlying4 h3
    obtain ⟨n4, e4, _, w4⟩ := DataW.trod_int Try.underlying3 h4
    simp at e0 e1 e2 e3 e4
    subst e0 e1 e2 e3 e4
    exact ⟨n0, n1, n2, n3, n4, rfl, wf_i64 w0, wf_i64 w1, wf_i64 w2, wf_i64 w4⟩
theorem row_bitmap {W : World} {H : Type} {enc : TypeId × Value → H} {r : Reach} {b0 : Nat} {v : Value} {d : DataW H} {ps : List MemPlace} (hv : Value.okWide Try.prog W r b0 48 v)
    (h : DataW.Trod enc Try.prog W 0 (fun _ => true) true 48 v d ps) :
    ∃ (wd ht : Int) (a : Option Addr) (len cap : Nat) (zs : List Int), v = .agg #[.int .i64 wd, .int .i64 ht, .slice a len cap] ∧ IsRow .u8 W a len cap zs ∧ I64 wd ∧ I64 ht := by
  obtain ⟨l, rfl, hl, hcl⟩ := parts_agg Try.underlying48 hv
  obtain ⟨fuel, hf⟩ := h
  obtain ⟨_, hp⟩ := open_parts Try.underlying48 (by kernel_rfl) hf
  rw [hcl] at hp
  have hl3 : l.length = 3 := hl.trans (by kernel_rfl)
  match l, hl3 with
  | [c0, c1, c2], _ =>
    obtain ⟨_, _, h0⟩ := hp 0 _ c0 rfl rfl
    obtain ⟨_, _, h1⟩ := hp 1 _ c1 rfl rfl
    obtain ⟨_, _, h2⟩ := hp 2 _ c2 rfl rfl
    obtain ⟨n0, e0, _, w0⟩ := DataW.trod_int Try.underlying3 h0
    obtain ⟨n1, e1, _, w1⟩ := DataW.trod_int Try.underlying3 h1
    obtain ⟨a, len, cap, zs, e2, hr⟩ := row_one Try.underlying24 Try.underlying5 (by kernel_rfl) h2
    simp at e0 e1
    subst e0 e1 e2
    exact ⟨n0, n1, a, len, cap, zs, rfl, hr, wf_i64 w0, wf_i64 w1⟩
end Go.Proofs.Ytbfefpkhalegmaa
