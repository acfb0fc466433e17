/- The contracts of number.get and the reference's Get. -/
import Derived.Test.YtbfefpkhalegmaaN3

set_option linter.unusedVariables false
set_option linter.unusedSimpArgs false
namespace Go.Proofs.Ytbfefpkhalegmaa
open Go
set_option maxHeartbeats 4000000
set_option maxRecDepth 20000

theorem pow_bd {i : Nat} (h : i ≤ 20) : 2 ^ i ≤ 1048576 := Nat.pow_le_pow_right (n := 2) (by decide) h
theorem lenD_succ (base k c : Nat) (d : Dec) : lenD base (k + 1) c d = if d.err (base + 1 + c) ≠ 0 then (d.err (base + 1 + c), c, d.after (base + 1 + c)) else
      if d.got (base + 1 + c) = 0 then (0, c, d.after (base + 1 + c)) else lenD base k (c + 1) (d.after (base + 1 + c)) := rfl
theorem digD_succ (base c k i : Nat) (v : Int) (d : Dec) : digD base c (k + 1) i v d = if d.err (base + dctx c i) ≠ 0 then (d.err (base + dctx c i), 0, d.after (base + dctx c i)) else digD base c k (i + 1) (2 * v + d.got (base + dctx c i)) (d.after (base + dctx c i)) := rfl

theorem c_get (d : Dec) (hd : d.Ok) (base : Nat) (hb : base + 48 ≤ d.st.length) (hcl : d.code.length ≤ 1099511627776) :
    LCall Try.prog 72 [.ptr 0 0, .int .i64 base] (pDecL d) fun r L => r = .tup [numV (numGet base d).none (numGet base d).n, .int .i64 (numGet base d).err] ∧ L = pDecL (numGet base d).d := by
  have hsl := hd.1.2.1
  have h0 : Of d d := ⟨hd, rfl, rfl, rfl⟩
  refine lcall_of_vc tyok Try.func72 rfl (by rfl) Try.results72 Try.ntmps72 ?_; intro C hD
  simp only [pDecL] at hD ⊢
  simp (maxSteps := 2000000) only [↓vP0, vQ0, vT0, simprocAttr]
  refine callK_det (c_pGet d h0.1 (base) (by have := h0.2.2.1; omega) (by rw [h0.2.2.2]; exact hcl)) [0, 1, 2] ?_ ?_ ?_ rfl (by simp [pDecL]) ?_
  · simp [ren, rens, sg, sig, okIn, okIns, exK, leK, leF, leV, matK, objM, renO, roSame, lh, born, AObj.born, AObj.live, injOk, kindOf, rens_ints, okIns_ints, List.range, List.range.loop, mrg, mset]
  · simp [ren, rens, sg, sig, okIn, okIns, exK, leK, leF, leV, matK, objM, renO, roSame, lh, born, AObj.born, AObj.live, injOk, kindOf, rens_ints, okIns_ints, List.range, List.range.loop, mrg, mset, pDecL]
  · simp [ren, rens, sg, sig, okIn, okIns, exK, leK, leF, leV, matK, objM, renO, roSame, lh, born, AObj.born, AObj.live, injOk, kindOf, rens_ints, okIns_ints, List.range, List.range.loop, mrg, mset, pDecL, pDecC_rens, pDecC_okIns, pDecC_inj, h0.2.2.2]
  have h1 := h0.after (c := base) (by omega)
  have hng : numGet base d = if d.err base ≠ 0 then ⟨false, 0, d.err base, d.after base⟩ else if d.got base = 1 then ⟨true, 0, 0, d.after base⟩ else numGetL base (d.after base) := rfl
  rcases derr d base with ⟨q1, q2⟩ | ⟨q1, q2⟩
  case inr =>
    simp only [pDecL, q1, q2]
    rw [if_pos (by omega)] at hng
    simp (maxSteps := 2000000) only [↓vP0, vQ0, vT0, simprocAttr, pDecC_rens]
    refine exit_of [] (.tup [numV (numGet base d).none (numGet base d).n, .int .i64 (numGet base d).err]) (pDecL (numGet base d).d) ⟨rfl, rfl⟩ ?_ ?_ ?_ ?_ ?_
    all_goals simp [ren, rens, sg, sig, okIn, okIns, exK, leK, leF, leV, matK, objM, renO, roSame, lh, born, AObj.born, AObj.live, injOk, kindOf, rens_ints, okIns_ints, List.range, List.range.loop, mrg, mset, pDecL, pDecC_rens, pDecC_okIns, pDecC_inj, hng, q1, h1.2.2.2]
  rw [if_neg (by omega)] at hng
  simp only [pDecL, q1]
  by_cases hg : d.got base = 1
  · rw [if_pos hg] at hng
    simp only [hg]
    simp (maxSteps := 2000000) only [↓vP0, vQ0, vT0, simprocAttr, pDecC_rens]
    refine exit_of [] (.tup [numV (numGet base d).none (numGet base d).n, .int .i64 (numGet base d).err]) (pDecL (numGet base d).d) ⟨rfl, rfl⟩ ?_ ?_ ?_ ?_ ?_
    all_goals simp [ren, rens, sg, sig, okIn, okIns, exK, leK, leF, leV, matK, objM, renO, roSame, lh, born, AObj.born, AObj.live, injOk, kindOf, rens_ints, okIns_ints, List.range, List.range.loop, mrg, mset, pDecL, pDecC_rens, pDecC_okIns, pDecC_inj, hng, h1.2.2.2]
  have hg0 : d.got base = 0 := by rcases q2 with h | h; exact h; exact absurd h hg
  rw [if_neg hg] at hng
  simp only [hg0]
  simp (maxSteps := 2000000) only [↓vP0, vQ0, vT0, simprocAttr, pDecC_rens]
  refine loopK_of tyok hD (α := Nat × Dec) (fun s => s.1 ≤ 20 ∧ Of d s.2 ∧ lenD base (20 - s.1) s.1 s.2 = lenD base 20 0 (d.after base)) (fun s => 20 - s.1) (fun s => [.ptr 0 0, .int .i64 base, .junk, .junk, .ptr 3 0, .junk, .junk, .junk, .int .i64 s.1, .junk, .junk, .junk, .junk, .junk, .junk, .junk, .junk, .junk, .junk, .junk, .junk, .junk, .junk, .junk, .junk, .junk, .junk, .junk, .junk, .junk, .junk, .junk, .junk, .junk, .junk, .junk, .junk, .junk, .junk, .junk, .junk, .junk, .junk, .junk, .junk, .junk, .junk, .junk, .junk, .junk, .junk, .junk, .junk, .junk, .junk, .junk, .junk, .junk, .junk, .junk, .junk, .junk, .junk, .junk, .junk, .junk, .junk, .junk, .junk, .junk, .junk, .junk, .junk, .junk, .junk, .junk, .junk, .junk, .junk, .junk, .junk, .junk, .junk, .junk, .junk, .junk, .junk, .junk, .junk, .junk, .junk, .junk, .junk, .junk, .junk, .junk, .junk, .junk, .junk])
    (fun s => [.own (pDecC s.2 1 2) 154, .own (ints .i64 s.2.st) 3, .ro (ints .u8 d.code) 5, .own [.bool false, .int .i64 0] 28]) (0, d.after base) ⟨by omega, h1, rfl⟩ ?_ ?_
  · refine ⟨by simp [leF, leV], ⟨_, by first | rfl | exact (List.append_nil _).symm⟩, by simp, by simp [okIns, okIn], by simp [AObj.born, okIns, okIn, AObj.cells, okIns_ints, pDecC_okIns]⟩
  rintro ⟨c, D⟩ ⟨hc, hO, hln⟩
  simp only at hc hO hln
  simp (maxSteps := 2000000) only [↓vP0, vQ0, vT0, simprocAttr, pDecC_rens]
  (with_reducible first | refine condK_dec (fun h => ?_) (fun h => ?_) | refine condK_beq (fun h => ?_) (fun h => ?_) | refine condK_bne (fun h => ?_) (fun h => ?_) | refine condK_intro (fun h => ?_) (fun h => ?_))
  · have hc' : c < 20 := by omega
    obtain ⟨k, hk⟩ : ∃ k, 20 - c = k + 1 := ⟨19 - c, by omega⟩
    rw [hk, lenD_succ] at hln
    have hw1 : IntKind.i64.wrap (IntKind.i64.wrap ((base : Int) + 1) + (c : Int)) = ((base + 1 + c : Nat) : Int) := by
      rw [wr64 (_ + 1) (by omega) (by omega), wr64 _ (by omega) (by omega)]; omega
    have hO' := hO.after (c := base + 1 + c) (by omega)
    simp (maxSteps := 2000000) only [↓vP0, vQ0, vT0, simprocAttr, pDecC_rens, hw1]
    refine callK_det (c_pGet D hO.1 (base + 1 + c) (by have := hO.2.2.1; omega) (by rw [hO.2.2.2]; exact hcl)) [0, 1, 2] ?_ ?_ ?_ rfl (by simp [pDecL]) ?_
    · simp [ren, rens, sg, sig, okIn, okIns, exK, leK, leF, leV, matK, objM, renO, roSame, lh, born, AObj.born, AObj.live, injOk, kindOf, rens_ints, okIns_ints, List.range, List.range.loop, mrg, mset]
    · simp [ren, rens, sg, sig, okIn, okIns, exK, leK, leF, leV, matK, objM, renO, roSame, lh, born, AObj.born, AObj.live, injOk, kindOf, rens_ints, okIns_ints, List.range, List.range.loop, mrg, mset, pDecL]
    · simp [ren, rens, sg, sig, okIn, okIns, exK, leK, leF, leV, matK, objM, renO, roSame, lh, born, AObj.born, AObj.live, injOk, kindOf, rens_ints, okIns_ints, List.range, List.range.loop, mrg, mset, pDecL, pDecC_rens, pDecC_okIns, pDecC_inj, hO.2.2.2]
    rcases derr D (base + 1 + c) with ⟨q1, q2⟩ | ⟨q1, q2⟩
    case inr =>
      simp only [pDecL, q1, q2]
      rw [if_pos (by omega), q1] at hln
      have hng : numGet base d = ⟨false, 0, 6, D.after (base + 1 + c)⟩ := by rw [hng, numGetL, ← hln]; simp
      simp (maxSteps := 2000000) only [↓vP0, vQ0, vT0, simprocAttr, pDecC_rens]
      refine exit_of [] (.tup [numV (numGet base d).none (numGet base d).n, .int .i64 (numGet base d).err]) (pDecL (numGet base d).d) ⟨rfl, rfl⟩ ?_ ?_ ?_ ?_ ?_
      all_goals simp [ren, rens, sg, sig, okIn, okIns, exK, leK, leF, leV, matK, objM, renO, roSame, lh, born, AObj.born, AObj.live, injOk, kindOf, rens_ints, okIns_ints, List.range, List.range.loop, mrg, mset, pDecL, pDecC_rens, pDecC_okIns, pDecC_inj, hng, hO'.2.2.2]
    rw [if_neg (by omega)] at hln
    by_cases hgz : D.got (base + 1 + c) = 0
    · rw [if_pos hgz] at hln
      replace hln := hln.symm
      simp only [pDecL, q1, hgz]
      clear hO
      have hO := hO'
      simp (maxSteps := 2000000) only [↓vP0, vQ0, vT0, simprocAttr, pDecC_rens]
      refine loopK_of tyok hD (α := Nat × Int × Dec) (fun s => s.1 ≤ c ∧ Of d s.2.2 ∧ digD base c (c - s.1) s.1 s.2.1 s.2.2 = digD base c c 0 1 (D.after (base + 1 + c)) ∧ 0 ≤ s.2.1 ∧ s.2.1 < ((2 ^ (s.1 + 1) : Nat) : Int)) (fun s => c - s.1)
        (fun s => [.ptr 0 0, .int .i64 base, .junk, .junk, .ptr 3 0, .junk, .junk, .junk, .int .i64 c, .int .i64 s.2.1, .ptr 4 0, .junk, .junk, .junk, .junk, .junk, .junk, .junk, .junk, .junk, .junk, .junk, .junk, .junk, .junk, .junk, .junk, .junk, .junk, .junk, .junk, .junk, .junk, .junk, .junk, .junk, .junk, .junk, .junk, .junk, .junk, .junk, .junk, .junk, .junk, .junk, .junk, .junk, .junk, .int .i64 c, .int .i64 s.1, .junk, .junk, .junk, .junk, .junk, .junk, .junk, .junk, .junk, .junk, .junk, .junk, .junk, .junk, .junk, .junk, .junk, .junk, .junk, .junk, .junk, .junk, .junk, .junk, .junk, .junk, .junk, .junk, .junk, .junk, .junk, .junk, .junk, .junk, .junk, .junk, .junk, .junk, .junk, .junk, .junk, .junk, .junk, .junk, .junk, .junk, .junk, .junk]) (fun s => [.own (pDecC s.2.2 1 2) 154, .own (ints .i64 s.2.2.st) 3, .ro (ints .u8 d.code) 5, .own [.bool false, .int .i64 0] 28, .own [.int .i64 (min (max 44 (43 + (s.1 : Int))) 47)] 166]) (0, 1, (D.after (base + 1 + c))) ⟨by omega, hO, rfl, by simp, by simp⟩ ?_ ?_
      · refine ⟨by simp [leF, leV], ⟨_, by first | rfl | exact (List.append_nil _).symm⟩, by simp, by simp [okIns, okIn], by simp [AObj.born, okIns, okIn, AObj.cells, okIns_ints, pDecC_okIns]⟩
      rintro ⟨i, v, E⟩ ⟨hi, hO2, hdg, hv0, hv1⟩
      simp only at hi hO2 hdg hv0 hv1
      simp (maxSteps := 2000000) only [↓vP0, vQ0, vT0, simprocAttr, pDecC_rens]
      (with_reducible first | refine condK_dec (fun h => ?_) (fun h => ?_) | refine condK_beq (fun h => ?_) (fun h => ?_) | refine condK_bne (fun h => ?_) (fun h => ?_) | refine condK_intro (fun h => ?_) (fun h => ?_))
      · have hi' : i < c := by omega
        have hp := pow_bd (show i + 1 ≤ 20 by omega)
        have hp2 : 2 ^ (i + 1 + 1) = 2 ^ (i + 1) * 2 := Nat.pow_succ ..
        obtain ⟨k, hk⟩ : ∃ k, c - i = k + 1 := ⟨c - i - 1, by omega⟩
        rw [hk, digD_succ] at hdg
        have hct : dctx c i + 1 ≤ 48 := by simp only [dctx]; split <;> omega
        have hO3 := hO2.after (c := base + dctx c i) (by omega)
        simp (maxSteps := 2000000) only [↓vP0, vQ0, vT0, simprocAttr, pDecC_rens]
        (try simp (disch := omega) only [wr64, wru64, wru8, tdv, tmd, fdv])
        (with_reducible first | refine condK_dec (fun h => ?_) (fun h => ?_) | refine condK_beq (fun h => ?_) (fun h => ?_) | refine condK_bne (fun h => ?_) (fun h => ?_) | refine condK_intro (fun h => ?_) (fun h => ?_))
        · simp (maxSteps := 2000000) only [↓vP0, vQ0, vT0, simprocAttr, pDecC_rens]
          refine callK_det (c_ntake (min (max 44 (43 + (i : Int))) 47) (by omega) (by omega)) [4] ?_ ?_ ?_ rfl (by simp) ?_
          · simp [ren, rens, sg, sig, okIn, okIns, exK, leK, leF, leV, matK, objM, renO, roSame, lh, born, AObj.born, AObj.live, injOk, kindOf, rens_ints, okIns_ints, List.range, List.range.loop, mrg, mset]
          · simp [ren, rens, sg, sig, okIn, okIns, exK, leK, leF, leV, matK, objM, renO, roSame, lh, born, AObj.born, AObj.live, injOk, kindOf, rens_ints, okIns_ints, List.range, List.range.loop, mrg, mset]
          · simp [ren, rens, sg, sig, okIn, okIns, exK, leK, leF, leV, matK, objM, renO, roSame, lh, born, AObj.born, AObj.live, injOk, kindOf, rens_ints, okIns_ints, List.range, List.range.loop, mrg, mset]
          have hw2 : IntKind.i64.wrap ((base : Int) + min (max 44 (43 + (i : Int))) 47) = ((base + dctx c i : Nat) : Int) := by
            have : (min (max 44 (43 + (i : Int))) 47 : Int) = (dctx c i : Nat) := by simp only [dctx]; first | (rw [if_pos (by omega)]; omega) | (rw [if_neg (by omega)]; omega)
            rw [this, wr64 _ (by omega) (by omega)]; omega
          simp (maxSteps := 2000000) only [↓vP0, vQ0, vT0, simprocAttr, hw2]
          refine callK_det (c_pGet E hO2.1 (base + dctx c i) (by have := hO2.2.2.1; omega) (by rw [hO2.2.2.2]; exact hcl)) [0, 1, 2] ?_ ?_ ?_ rfl (by simp [pDecL]) ?_
          · simp [ren, rens, sg, sig, okIn, okIns, exK, leK, leF, leV, matK, objM, renO, roSame, lh, born, AObj.born, AObj.live, injOk, kindOf, rens_ints, okIns_ints, List.range, List.range.loop, mrg, mset]
          · simp [ren, rens, sg, sig, okIn, okIns, exK, leK, leF, leV, matK, objM, renO, roSame, lh, born, AObj.born, AObj.live, injOk, kindOf, rens_ints, okIns_ints, List.range, List.range.loop, mrg, mset, pDecL]
          · simp [ren, rens, sg, sig, okIn, okIns, exK, leK, leF, leV, matK, objM, renO, roSame, lh, born, AObj.born, AObj.live, injOk, kindOf, rens_ints, okIns_ints, List.range, List.range.loop, mrg, mset, pDecL, pDecC_rens, pDecC_okIns, pDecC_inj, hO2.2.2.2]
          rcases derr E (base + dctx c i) with ⟨q1, q2⟩ | ⟨q1, q2⟩
          case inr =>
            simp only [pDecL, q1, q2]
            rw [if_pos (by omega), q1] at hdg
            have hng : numGet base d = ⟨false, 0, 6, E.after (base + dctx c i)⟩ := by rw [hng, numGetL, hln]; simp only [ne_eq, not_true_eq_false, if_false]; rw [numGetD, ← hdg]; simp
            simp (maxSteps := 2000000) only [↓vP0, vQ0, vT0, simprocAttr, pDecC_rens]
            refine exit_of [] (.tup [numV (numGet base d).none (numGet base d).n, .int .i64 (numGet base d).err]) (pDecL (numGet base d).d) ⟨rfl, rfl⟩ ?_ ?_ ?_ ?_ ?_
            all_goals simp [ren, rens, sg, sig, okIn, okIns, exK, leK, leF, leV, matK, objM, renO, roSame, lh, born, AObj.born, AObj.live, injOk, kindOf, rens_ints, okIns_ints, List.range, List.range.loop, mrg, mset, pDecL, pDecC_rens, pDecC_okIns, pDecC_inj, hng, hO3.2.2.2]
          case inl =>
            rw [if_neg (by omega)] at hdg
            have hgb : 0 ≤ E.got (base + dctx c i) ∧ E.got (base + dctx c i) ≤ 1 := by rcases q2 with h | h <;> omega
            simp only [pDecL, q1]
            simp (maxSteps := 2000000) only [↓vP0, vQ0, vT0, simprocAttr, pDecC_rens]
            simp (disch := omega) only [wr64, wru64, wru8, tdv, tmd, fdv]
            refine ⟨(i + 1, 2 * v + E.got (base + dctx c i), E.after (base + dctx c i)), ⟨by omega, hO3, by rw [← hdg]; congr 1; omega, by simp only; omega, by simp only; rw [hp2]; omega⟩, by simp only; omega, ?_⟩
            simp only [Int.natCast_add, Int.cast_ofNat_Int]
            have ht : min (min (max 44 (43 + (i : Int))) 47 + 1) 47 = min (max 44 (43 + ((i : Int) + 1))) 47 := by omega
            rw [ht]
            refine ⟨by simp [leF, leV], ⟨_, by first | rfl | exact (List.append_nil _).symm⟩, by simp, by simp [okIns, okIn], by simp [AObj.born, okIns, okIn, AObj.cells, okIns_ints, pDecC_okIns]⟩
        · simp (maxSteps := 2000000) only [↓vP0, vQ0, vT0, simprocAttr, pDecC_rens]
          have hw2 : IntKind.i64.wrap ((base : Int) + IntKind.i64.wrap (23 + (c : Int))) = ((base + dctx c i : Nat) : Int) := by
            have : (23 + (c : Int) : Int) = (dctx c i : Nat) := by simp only [dctx]; first | (rw [if_pos (by omega)]; omega) | (rw [if_neg (by omega)]; omega)
            rw [wr64 (23 + _) (by omega) (by omega), this, wr64 _ (by omega) (by omega)]; omega
          simp (maxSteps := 2000000) only [↓vP0, vQ0, vT0, simprocAttr, hw2]
          refine callK_det (c_pGet E hO2.1 (base + dctx c i) (by have := hO2.2.2.1; omega) (by rw [hO2.2.2.2]; exact hcl)) [0, 1, 2] ?_ ?_ ?_ rfl (by simp [pDecL]) ?_
          · simp [ren, rens, sg, sig, okIn, okIns, exK, leK, leF, leV, matK, objM, renO, roSame, lh, born, AObj.born, AObj.live, injOk, kindOf, rens_ints, okIns_ints, List.range, List.range.loop, mrg, mset]
          · simp [ren, rens, sg, sig, okIn, okIns, exK, leK, leF, leV, matK, objM, renO, roSame, lh, born, AObj.born, AObj.live, injOk, kindOf, rens_ints, okIns_ints, List.range, List.range.loop, mrg, mset, pDecL]
          · simp [ren, rens, sg, sig, okIn, okIns, exK, leK, leF, leV, matK, objM, renO, roSame, lh, born, AObj.born, AObj.live, injOk, kindOf, rens_ints, okIns_ints, List.range, List.range.loop, mrg, mset, pDecL, pDecC_rens, pDecC_okIns, pDecC_inj, hO2.2.2.2]
          rcases derr E (base + dctx c i) with ⟨q1, q2⟩ | ⟨q1, q2⟩
          case inr =>
            simp only [pDecL, q1, q2]
            rw [if_pos (by omega), q1] at hdg
            have hng : numGet base d = ⟨false, 0, 6, E.after (base + dctx c i)⟩ := by rw [hng, numGetL, hln]; simp only [ne_eq, not_true_eq_false, if_false]; rw [numGetD, ← hdg]; simp
            simp (maxSteps := 2000000) only [↓vP0, vQ0, vT0, simprocAttr, pDecC_rens]
            refine exit_of [] (.tup [numV (numGet base d).none (numGet base d).n, .int .i64 (numGet base d).err]) (pDecL (numGet base d).d) ⟨rfl, rfl⟩ ?_ ?_ ?_ ?_ ?_
            all_goals simp [ren, rens, sg, sig, okIn, okIns, exK, leK, leF, leV, matK, objM, renO, roSame, lh, born, AObj.born, AObj.live, injOk, kindOf, rens_ints, okIns_ints, List.range, List.range.loop, mrg, mset, pDecL, pDecC_rens, pDecC_okIns, pDecC_inj, hng, hO3.2.2.2]
          case inl =>
            rw [if_neg (by omega)] at hdg
            have hgb : 0 ≤ E.got (base + dctx c i) ∧ E.got (base + dctx c i) ≤ 1 := by rcases q2 with h | h <;> omega
            simp only [pDecL, q1]
            simp (maxSteps := 2000000) only [↓vP0, vQ0, vT0, simprocAttr, pDecC_rens]
            simp (disch := omega) only [wr64, wru64, wru8, tdv, tmd, fdv]
            refine ⟨(i + 1, 2 * v + E.got (base + dctx c i), E.after (base + dctx c i)), ⟨by omega, hO3, by rw [← hdg]; congr 1; omega, by simp only; omega, by simp only; rw [hp2]; omega⟩, by simp only; omega, ?_⟩
            simp only [Int.natCast_add, Int.cast_ofNat_Int]
            have ht : min (max 44 (43 + (i : Int))) 47 = min (max 44 (43 + ((i : Int) + 1))) 47 := by omega
            rw [ht]
            refine ⟨by simp [leF, leV], ⟨_, by first | rfl | exact (List.append_nil _).symm⟩, by simp, by simp [okIns, okIn], by simp [AObj.born, okIns, okIn, AObj.cells, okIns_ints, pDecC_okIns]⟩
      · have hi' : i = c := by omega
        have hdg2 : digD base c c 0 1 (D.after (base + 1 + c)) = (0, v, E) := by rw [← hdg, hi', Nat.sub_self]; rfl
        have hv2 : v < 2097152 := by
          have := Nat.pow_le_pow_right (n := 2) (by decide) (show i + 1 ≤ 21 by omega)
          have : (2 : Nat) ^ 21 = 2097152 := by decide
          omega
        have hng : numGet base d = numGetV base v E := by rw [hng, numGetL, hln]; simp only [ne_eq, not_true_eq_false, if_false]; rw [numGetD, hdg2]; simp
        clear hdg
        simp (maxSteps := 2000000) only [↓vP0, vQ0, vT0, simprocAttr, pDecC_rens]
        (with_reducible first | refine condK_dec (fun h => ?_) (fun h => ?_) | refine condK_beq (fun h => ?_) (fun h => ?_) | refine condK_bne (fun h => ?_) (fun h => ?_) | refine condK_intro (fun h => ?_) (fun h => ?_))
        · have hng : numGet base d = ⟨false, 0, 3, E⟩ := by rw [hng, numGetV, if_pos (by omega)]
          simp (maxSteps := 2000000) only [↓vP0, vQ0, vT0, simprocAttr, pDecC_rens]
          refine exit_of [] (.tup [numV (numGet base d).none (numGet base d).n, .int .i64 (numGet base d).err]) (pDecL (numGet base d).d) ⟨rfl, rfl⟩ ?_ ?_ ?_ ?_ ?_
          all_goals simp [ren, rens, sg, sig, okIn, okIns, exK, leK, leF, leV, matK, objM, renO, roSame, lh, born, AObj.born, AObj.live, injOk, kindOf, rens_ints, okIns_ints, List.range, List.range.loop, mrg, mset, pDecL, pDecC_rens, pDecC_okIns, pDecC_inj, hng, hO2.2.2.2]
        · simp (maxSteps := 2000000) only [↓vP0, vQ0, vT0, simprocAttr, pDecC_rens]
          (with_reducible first | refine condK_dec (fun h => ?_) (fun h => ?_) | refine condK_beq (fun h => ?_) (fun h => ?_) | refine condK_bne (fun h => ?_) (fun h => ?_) | refine condK_intro (fun h => ?_) (fun h => ?_))
          · have hng : numGet base d = ⟨false, 0, 0, E⟩ := by rw [hng, numGetV, if_neg (by omega), if_pos (by omega)]
            simp (maxSteps := 2000000) only [↓vP0, vQ0, vT0, simprocAttr, pDecC_rens]
            refine exit_of [] (.tup [numV (numGet base d).none (numGet base d).n, .int .i64 (numGet base d).err]) (pDecL (numGet base d).d) ⟨rfl, rfl⟩ ?_ ?_ ?_ ?_ ?_
            all_goals simp [ren, rens, sg, sig, okIn, okIns, exK, leK, leF, leV, matK, objM, renO, roSame, lh, born, AObj.born, AObj.live, injOk, kindOf, rens_ints, okIns_ints, List.range, List.range.loop, mrg, mset, pDecL, pDecC_rens, pDecC_okIns, pDecC_inj, hng, hO2.2.2.2]
          · rw [numGetV, if_neg (by omega), if_neg (by omega)] at hng
            have hw3 : IntKind.i64.wrap ((base : Int) + 22) = ((base + 22 : Nat) : Int) := by rw [wr64 _ (by omega) (by omega)]; omega
            have hO4 := hO2.after (c := base + 22) (by omega)
            simp (maxSteps := 2000000) only [↓vP0, vQ0, vT0, simprocAttr, pDecC_rens, hw3]
            refine callK_det (c_pGet E hO2.1 (base + 22) (by have := hO2.2.2.1; omega) (by rw [hO2.2.2.2]; exact hcl)) [0, 1, 2] ?_ ?_ ?_ rfl (by simp [pDecL]) ?_
            · simp [ren, rens, sg, sig, okIn, okIns, exK, leK, leF, leV, matK, objM, renO, roSame, lh, born, AObj.born, AObj.live, injOk, kindOf, rens_ints, okIns_ints, List.range, List.range.loop, mrg, mset]
            · simp [ren, rens, sg, sig, okIn, okIns, exK, leK, leF, leV, matK, objM, renO, roSame, lh, born, AObj.born, AObj.live, injOk, kindOf, rens_ints, okIns_ints, List.range, List.range.loop, mrg, mset, pDecL]
            · simp [ren, rens, sg, sig, okIn, okIns, exK, leK, leF, leV, matK, objM, renO, roSame, lh, born, AObj.born, AObj.live, injOk, kindOf, rens_ints, okIns_ints, List.range, List.range.loop, mrg, mset, pDecL, pDecC_rens, pDecC_okIns, pDecC_inj, hO2.2.2.2]
            rcases derr E (base + 22) with ⟨q1, q2 | q2⟩ | ⟨q1, q2⟩
            · rw [if_neg (by omega), q2] at hng
              simp only [pDecL, q1, q2]
              simp (maxSteps := 2000000) only [↓vP0, vQ0, vT0, simprocAttr, pDecC_rens]
              simp (disch := omega) only [wr64, wru64, wru8, tdv, tmd, fdv]
              refine exit_of [] (.tup [numV (numGet base d).none (numGet base d).n, .int .i64 (numGet base d).err]) (pDecL (numGet base d).d) ⟨rfl, rfl⟩ ?_ ?_ ?_ ?_ ?_
              all_goals simp [ren, rens, sg, sig, okIn, okIns, exK, leK, leF, leV, matK, objM, renO, roSame, lh, born, AObj.born, AObj.live, injOk, kindOf, rens_ints, okIns_ints, List.range, List.range.loop, mrg, mset, pDecL, pDecC_rens, pDecC_okIns, pDecC_inj, hng, hO4.2.2.2]
            · rw [if_neg (by omega), q2] at hng
              simp only [pDecL, q1, q2]
              simp (maxSteps := 2000000) only [↓vP0, vQ0, vT0, simprocAttr, pDecC_rens]
              simp (disch := omega) only [wr64, wru64, wru8, tdv, tmd, fdv]
              refine exit_of [] (.tup [numV (numGet base d).none (numGet base d).n, .int .i64 (numGet base d).err]) (pDecL (numGet base d).d) ⟨rfl, rfl⟩ ?_ ?_ ?_ ?_ ?_
              all_goals simp [ren, rens, sg, sig, okIn, okIns, exK, leK, leF, leV, matK, objM, renO, roSame, lh, born, AObj.born, AObj.live, injOk, kindOf, rens_ints, okIns_ints, List.range, List.range.loop, mrg, mset, pDecL, pDecC_rens, pDecC_okIns, pDecC_inj, hng, hO4.2.2.2]
            · rw [if_pos (by omega), q1] at hng
              simp only [pDecL, q1, q2]
              simp (maxSteps := 2000000) only [↓vP0, vQ0, vT0, simprocAttr, pDecC_rens]
              refine exit_of [] (.tup [numV (numGet base d).none (numGet base d).n, .int .i64 (numGet base d).err]) (pDecL (numGet base d).d) ⟨rfl, rfl⟩ ?_ ?_ ?_ ?_ ?_
              all_goals simp [ren, rens, sg, sig, okIn, okIns, exK, leK, leF, leV, matK, objM, renO, roSame, lh, born, AObj.born, AObj.live, injOk, kindOf, rens_ints, okIns_ints, List.range, List.range.loop, mrg, mset, pDecL, pDecC_rens, pDecC_okIns, pDecC_inj, hng, hO4.2.2.2]
    · rw [if_neg hgz] at hln
      have hgo : D.got (base + 1 + c) = 1 := by rcases q2 with h | h; exact absurd h hgz; exact h
      simp only [pDecL, q1, hgo]
      simp (maxSteps := 2000000) only [↓vP0, vQ0, vT0, simprocAttr, pDecC_rens]
      simp (disch := omega) only [wr64, wru64, wru8, tdv, tmd, fdv]
      refine ⟨(c + 1, D.after (base + 1 + c)), ⟨by omega, hO', by rw [← hln]; congr 1; omega⟩, by simp only; omega, ?_⟩
      simp only [Int.natCast_add, Int.cast_ofNat_Int]
      refine ⟨by simp [leF, leV], ⟨_, by first | rfl | exact (List.append_nil _).symm⟩, by simp, by simp [okIns, okIn], by simp [AObj.born, okIns, okIn, AObj.cells, okIns_ints, pDecC_okIns]⟩
  · have hc' : c = 20 := by omega
    have hz : lenD base (20 - c) c D = (0, c, D) := by rw [show 20 - c = 0 by omega]; rfl
    replace hln : lenD base 20 0 (d.after base) = (0, c, D) := hln.symm.trans hz
    clear hz
    simp (maxSteps := 2000000) only [↓vP0, vQ0, vT0, simprocAttr, pDecC_rens]
    refine loopK_of tyok hD (α := Nat × Int × Dec) (fun s => s.1 ≤ c ∧ Of d s.2.2 ∧ digD base c (c - s.1) s.1 s.2.1 s.2.2 = digD base c c 0 1 D ∧ 0 ≤ s.2.1 ∧ s.2.1 < ((2 ^ (s.1 + 1) : Nat) : Int)) (fun s => c - s.1)
      (fun s => [.ptr 0 0, .int .i64 base, .junk, .junk, .ptr 3 0, .junk, .junk, .junk, .int .i64 c, .int .i64 s.2.1, .ptr 4 0, .junk, .junk, .junk, .junk, .junk, .junk, .junk, .junk, .junk, .junk, .junk, .junk, .junk, .junk, .junk, .junk, .junk, .junk, .junk, .junk, .junk, .junk, .junk, .junk, .junk, .junk, .junk, .junk, .junk, .junk, .junk, .junk, .junk, .junk, .junk, .junk, .junk, .junk, .int .i64 c, .int .i64 s.1, .junk, .junk, .junk, .junk, .junk, .junk, .junk, .junk, .junk, .junk, .junk, .junk, .junk, .junk, .junk, .junk, .junk, .junk, .junk, .junk, .junk, .junk, .junk, .junk, .junk, .junk, .junk, .junk, .junk, .junk, .junk, .junk, .junk, .junk, .junk, .junk, .junk, .junk, .junk, .junk, .junk, .junk, .junk, .junk, .junk, .junk, .junk, .junk]) (fun s => [.own (pDecC s.2.2 1 2) 154, .own (ints .i64 s.2.2.st) 3, .ro (ints .u8 d.code) 5, .own [.bool false, .int .i64 0] 28, .own [.int .i64 (min (max 44 (43 + (s.1 : Int))) 47)] 166]) (0, 1, D) ⟨by omega, hO, rfl, by simp, by simp⟩ ?_ ?_
    · refine ⟨by simp [leF, leV], ⟨_, by first | rfl | exact (List.append_nil _).symm⟩, by simp, by simp [okIns, okIn], by simp [AObj.born, okIns, okIn, AObj.cells, okIns_ints, pDecC_okIns]⟩
    rintro ⟨i, v, E⟩ ⟨hi, hO2, hdg, hv0, hv1⟩
    simp only at hi hO2 hdg hv0 hv1
    simp (maxSteps := 2000000) only [↓vP0, vQ0, vT0, simprocAttr, pDecC_rens]
    (with_reducible first | refine condK_dec (fun h => ?_) (fun h => ?_) | refine condK_beq (fun h => ?_) (fun h => ?_) | refine condK_bne (fun h => ?_) (fun h => ?_) | refine condK_intro (fun h => ?_) (fun h => ?_))
    · have hi' : i < c := by omega
      have hp := pow_bd (show i + 1 ≤ 20 by omega)
      have hp2 : 2 ^ (i + 1 + 1) = 2 ^ (i + 1) * 2 := Nat.pow_succ ..
      obtain ⟨k, hk⟩ : ∃ k, c - i = k + 1 := ⟨c - i - 1, by omega⟩
      rw [hk, digD_succ] at hdg
      have hct : dctx c i + 1 ≤ 48 := by simp only [dctx]; split <;> omega
      have hO3 := hO2.after (c := base + dctx c i) (by omega)
      simp (maxSteps := 2000000) only [↓vP0, vQ0, vT0, simprocAttr, pDecC_rens]
      (try simp (disch := omega) only [wr64, wru64, wru8, tdv, tmd, fdv])
      (with_reducible first | refine condK_dec (fun h => ?_) (fun h => ?_) | refine condK_beq (fun h => ?_) (fun h => ?_) | refine condK_bne (fun h => ?_) (fun h => ?_) | refine condK_intro (fun h => ?_) (fun h => ?_))
      · simp (maxSteps := 2000000) only [↓vP0, vQ0, vT0, simprocAttr, pDecC_rens]
        refine callK_det (c_ntake (min (max 44 (43 + (i : Int))) 47) (by omega) (by omega)) [4] ?_ ?_ ?_ rfl (by simp) ?_
        · simp [ren, rens, sg, sig, okIn, okIns, exK, leK, leF, leV, matK, objM, renO, roSame, lh, born, AObj.born, AObj.live, injOk, kindOf, rens_ints, okIns_ints, List.range, List.range.loop, mrg, mset]
        · simp [ren, rens, sg, sig, okIn, okIns, exK, leK, leF, leV, matK, objM, renO, roSame, lh, born, AObj.born, AObj.live, injOk, kindOf, rens_ints, okIns_ints, List.range, List.range.loop, mrg, mset]
        · simp [ren, rens, sg, sig, okIn, okIns, exK, leK, leF, leV, matK, objM, renO, roSame, lh, born, AObj.born, AObj.live, injOk, kindOf, rens_ints, okIns_ints, List.range, List.range.loop, mrg, mset]
        have hw2 : IntKind.i64.wrap ((base : Int) + min (max 44 (43 + (i : Int))) 47) = ((base + dctx c i : Nat) : Int) := by
          have : (min (max 44 (43 + (i : Int))) 47 : Int) = (dctx c i : Nat) := by simp only [dctx]; first | (rw [if_pos (by omega)]; omega) | (rw [if_neg (by omega)]; omega)
          rw [this, wr64 _ (by omega) (by omega)]; omega
        simp (maxSteps := 2000000) only [↓vP0, vQ0, vT0, simprocAttr, hw2]
        refine callK_det (c_pGet E hO2.1 (base + dctx c i) (by have := hO2.2.2.1; omega) (by rw [hO2.2.2.2]; exact hcl)) [0, 1, 2] ?_ ?_ ?_ rfl (by simp [pDecL]) ?_
        · simp [ren, rens, sg, sig, okIn, okIns, exK, leK, leF, leV, matK, objM, renO, roSame, lh, born, AObj.born, AObj.live, injOk, kindOf, rens_ints, okIns_ints, List.range, List.range.loop, mrg, mset]
        · simp [ren, rens, sg, sig, okIn, okIns, exK, leK, leF, leV, matK, objM, renO, roSame, lh, born, AObj.born, AObj.live, injOk, kindOf, rens_ints, okIns_ints, List.range, List.range.loop, mrg, mset, pDecL]
        · simp [ren, rens, sg, sig, okIn, okIns, exK, leK, leF, leV, matK, objM, renO, roSame, lh, born, AObj.born, AObj.live, injOk, kindOf, rens_ints, okIns_ints, List.range, List.range.loop, mrg, mset, pDecL, pDecC_rens, pDecC_okIns, pDecC_inj, hO2.2.2.2]
        rcases derr E (base + dctx c i) with ⟨q1, q2⟩ | ⟨q1, q2⟩
        case inr =>
          simp only [pDecL, q1, q2]
          rw [if_pos (by omega), q1] at hdg
          have hng : numGet base d = ⟨false, 0, 6, E.after (base + dctx c i)⟩ := by rw [hng, numGetL, hln]; simp only [ne_eq, not_true_eq_false, if_false]; rw [numGetD, ← hdg]; simp
          simp (maxSteps := 2000000) only [↓vP0, vQ0, vT0, simprocAttr, pDecC_rens]
          refine exit_of [] (.tup [numV (numGet base d).none (numGet base d).n, .int .i64 (numGet base d).err]) (pDecL (numGet base d).d) ⟨rfl, rfl⟩ ?_ ?_ ?_ ?_ ?_
          all_goals simp [ren, rens, sg, sig, okIn, okIns, exK, leK, leF, leV, matK, objM, renO, roSame, lh, born, AObj.born, AObj.live, injOk, kindOf, rens_ints, okIns_ints, List.range, List.range.loop, mrg, mset, pDecL, pDecC_rens, pDecC_okIns, pDecC_inj, hng, hO3.2.2.2]
        case inl =>
          rw [if_neg (by omega)] at hdg
          have hgb : 0 ≤ E.got (base + dctx c i) ∧ E.got (base + dctx c i) ≤ 1 := by rcases q2 with h | h <;> omega
          simp only [pDecL, q1]
          simp (maxSteps := 2000000) only [↓vP0, vQ0, vT0, simprocAttr, pDecC_rens]
          simp (disch := omega) only [wr64, wru64, wru8, tdv, tmd, fdv]
          refine ⟨(i + 1, 2 * v + E.got (base + dctx c i), E.after (base + dctx c i)), ⟨by omega, hO3, by rw [← hdg]; congr 1; omega, by simp only; omega, by simp only; rw [hp2]; omega⟩, by simp only; omega, ?_⟩
          simp only [Int.natCast_add, Int.cast_ofNat_Int]
          have ht : min (min (max 44 (43 + (i : Int))) 47 + 1) 47 = min (max 44 (43 + ((i : Int) + 1))) 47 := by omega
          rw [ht]
          refine ⟨by simp [leF, leV], ⟨_, by first | rfl | exact (List.append_nil _).symm⟩, by simp, by simp [okIns, okIn], by simp [AObj.born, okIns, okIn, AObj.cells, okIns_ints, pDecC_okIns]⟩
      · simp (maxSteps := 2000000) only [↓vP0, vQ0, vT0, simprocAttr, pDecC_rens]
        have hw2 : IntKind.i64.wrap ((base : Int) + IntKind.i64.wrap (23 + (c : Int))) = ((base + dctx c i : Nat) : Int) := by
          have : (23 + (c : Int) : Int) = (dctx c i : Nat) := by simp only [dctx]; first | (rw [if_pos (by omega)]; omega) | (rw [if_neg (by omega)]; omega)
          rw [wr64 (23 + _) (by omega) (by omega), this, wr64 _ (by omega) (by omega)]; omega
        simp (maxSteps := 2000000) only [↓vP0, vQ0, vT0, simprocAttr, hw2]
        refine callK_det (c_pGet E hO2.1 (base + dctx c i) (by have := hO2.2.2.1; omega) (by rw [hO2.2.2.2]; exact hcl)) [0, 1, 2] ?_ ?_ ?_ rfl (by simp [pDecL]) ?_
        · simp [ren, rens, sg, sig, okIn, okIns, exK, leK, leF, leV, matK, objM, renO, roSame, lh, born, AObj.born, AObj.live, injOk, kindOf, rens_ints, okIns_ints, List.range, List.range.loop, mrg, mset]
        · simp [ren, rens, sg, sig, okIn, okIns, exK, leK, leF, leV, matK, objM, renO, roSame, lh, born, AObj.born, AObj.live, injOk, kindOf, rens_ints, okIns_ints, List.range, List.range.loop, mrg, mset, pDecL]
        · simp [ren, rens, sg, sig, okIn, okIns, exK, leK, leF, leV, matK, objM, renO, roSame, lh, born, AObj.born, AObj.live, injOk, kindOf, rens_ints, okIns_ints, List.range, List.range.loop, mrg, mset, pDecL, pDecC_rens, pDecC_okIns, pDecC_inj, hO2.2.2.2]
        rcases derr E (base + dctx c i) with ⟨q1, q2⟩ | ⟨q1, q2⟩
        case inr =>
          simp only [pDecL, q1, q2]
          rw [if_pos (by omega), q1] at hdg
          have hng : numGet base d = ⟨false, 0, 6, E.after (base + dctx c i)⟩ := by rw [hng, numGetL, hln]; simp only [ne_eq, not_true_eq_false, if_false]; rw [numGetD, ← hdg]; simp
          simp (maxSteps := 2000000) only [↓vP0, vQ0, vT0, simprocAttr, pDecC_rens]
          refine exit_of [] (.tup [numV (numGet base d).none (numGet base d).n, .int .i64 (numGet base d).err]) (pDecL (numGet base d).d) ⟨rfl, rfl⟩ ?_ ?_ ?_ ?_ ?_
          all_goals simp [ren, rens, sg, sig, okIn, okIns, exK, leK, leF, leV, matK, objM, renO, roSame, lh, born, AObj.born, AObj.live, injOk, kindOf, rens_ints, okIns_ints, List.range, List.range.loop, mrg, mset, pDecL, pDecC_rens, pDecC_okIns, pDecC_inj, hng, hO3.2.2.2]
        case inl =>
          rw [if_neg (by omega)] at hdg
          have hgb : 0 ≤ E.got (base + dctx c i) ∧ E.got (base + dctx c i) ≤ 1 := by rcases q2 with h | h <;> omega
          simp only [pDecL, q1]
          simp (maxSteps := 2000000) only [↓vP0, vQ0, vT0, simprocAttr, pDecC_rens]
          simp (disch := omega) only [wr64, wru64, wru8, tdv, tmd, fdv]
          refine ⟨(i + 1, 2 * v + E.got (base + dctx c i), E.after (base + dctx c i)), ⟨by omega, hO3, by rw [← hdg]; congr 1; omega, by simp only; omega, by simp only; rw [hp2]; omega⟩, by simp only; omega, ?_⟩
          simp only [Int.natCast_add, Int.cast_ofNat_Int]
          have ht : min (max 44 (43 + (i : Int))) 47 = min (max 44 (43 + ((i : Int) + 1))) 47 := by omega
          rw [ht]
          refine ⟨by simp [leF, leV], ⟨_, by first | rfl | exact (List.append_nil _).symm⟩, by simp, by simp [okIns, okIn], by simp [AObj.born, okIns, okIn, AObj.cells, okIns_ints, pDecC_okIns]⟩
    · have hi' : i = c := by omega
      have hdg2 : digD base c c 0 1 D = (0, v, E) := by rw [← hdg, hi', Nat.sub_self]; rfl
      have hv2 : v < 2097152 := by
        have := Nat.pow_le_pow_right (n := 2) (by decide) (show i + 1 ≤ 21 by omega)
        have : (2 : Nat) ^ 21 = 2097152 := by decide
        omega
      have hng : numGet base d = numGetV base v E := by rw [hng, numGetL, hln]; simp only [ne_eq, not_true_eq_false, if_false]; rw [numGetD, hdg2]; simp
      clear hdg
      simp (maxSteps := 2000000) only [↓vP0, vQ0, vT0, simprocAttr, pDecC_rens]
      (with_reducible first | refine condK_dec (fun h => ?_) (fun h => ?_) | refine condK_beq (fun h => ?_) (fun h => ?_) | refine condK_bne (fun h => ?_) (fun h => ?_) | refine condK_intro (fun h => ?_) (fun h => ?_))
      · have hng : numGet base d = ⟨false, 0, 3, E⟩ := by rw [hng, numGetV, if_pos (by omega)]
        simp (maxSteps := 2000000) only [↓vP0, vQ0, vT0, simprocAttr, pDecC_rens]
        refine exit_of [] (.tup [numV (numGet base d).none (numGet base d).n, .int .i64 (numGet base d).err]) (pDecL (numGet base d).d) ⟨rfl, rfl⟩ ?_ ?_ ?_ ?_ ?_
        all_goals simp [ren, rens, sg, sig, okIn, okIns, exK, leK, leF, leV, matK, objM, renO, roSame, lh, born, AObj.born, AObj.live, injOk, kindOf, rens_ints, okIns_ints, List.range, List.range.loop, mrg, mset, pDecL, pDecC_rens, pDecC_okIns, pDecC_inj, hng, hO2.2.2.2]
      · simp (maxSteps := 2000000) only [↓vP0, vQ0, vT0, simprocAttr, pDecC_rens]
        (with_reducible first | refine condK_dec (fun h => ?_) (fun h => ?_) | refine condK_beq (fun h => ?_) (fun h => ?_) | refine condK_bne (fun h => ?_) (fun h => ?_) | refine condK_intro (fun h => ?_) (fun h => ?_))
        · have hng : numGet base d = ⟨false, 0, 0, E⟩ := by rw [hng, numGetV, if_neg (by omega), if_pos (by omega)]
          simp (maxSteps := 2000000) only [↓vP0, vQ0, vT0, simprocAttr, pDecC_rens]
          refine exit_of [] (.tup [numV (numGet base d).none (numGet base d).n, .int .i64 (numGet base d).err]) (pDecL (numGet base d).d) ⟨rfl, rfl⟩ ?_ ?_ ?_ ?_ ?_
          all_goals simp [ren, rens, sg, sig, okIn, okIns, exK, leK, leF, leV, matK, objM, renO, roSame, lh, born, AObj.born, AObj.live, injOk, kindOf, rens_ints, okIns_ints, List.range, List.range.loop, mrg, mset, pDecL, pDecC_rens, pDecC_okIns, pDecC_inj, hng, hO2.2.2.2]
        · rw [numGetV, if_neg (by omega), if_neg (by omega)] at hng
          have hw3 : IntKind.i64.wrap ((base : Int) + 22) = ((base + 22 : Nat) : Int) := by rw [wr64 _ (by omega) (by omega)]; omega
          have hO4 := hO2.after (c := base + 22) (by omega)
          simp (maxSteps := 2000000) only [↓vP0, vQ0, vT0, simprocAttr, pDecC_rens, hw3]
          refine callK_det (c_pGet E hO2.1 (base + 22) (by have := hO2.2.2.1; omega) (by rw [hO2.2.2.2]; exact hcl)) [0, 1, 2] ?_ ?_ ?_ rfl (by simp [pDecL]) ?_
          · simp [ren, rens, sg, sig, okIn, okIns, exK, leK, leF, leV, matK, objM, renO, roSame, lh, born, AObj.born, AObj.live, injOk, kindOf, rens_ints, okIns_ints, List.range, List.range.loop, mrg, mset]
          · simp [ren, rens, sg, sig, okIn, okIns, exK, leK, leF, leV, matK, objM, renO, roSame, lh, born, AObj.born, AObj.live, injOk, kindOf, rens_ints, okIns_ints, List.range, List.range.loop, mrg, mset, pDecL]
          · simp [ren, rens, sg, sig, okIn, okIns, exK, leK, leF, leV, matK, objM, renO, roSame, lh, born, AObj.born, AObj.live, injOk, kindOf, rens_ints, okIns_ints, List.range, List.range.loop, mrg, mset, pDecL, pDecC_rens, pDecC_okIns, pDecC_inj, hO2.2.2.2]
          rcases derr E (base + 22) with ⟨q1, q2 | q2⟩ | ⟨q1, q2⟩
          · rw [if_neg (by omega), q2] at hng
            simp only [pDecL, q1, q2]
            simp (maxSteps := 2000000) only [↓vP0, vQ0, vT0, simprocAttr, pDecC_rens]
            simp (disch := omega) only [wr64, wru64, wru8, tdv, tmd, fdv]
            refine exit_of [] (.tup [numV (numGet base d).none (numGet base d).n, .int .i64 (numGet base d).err]) (pDecL (numGet base d).d) ⟨rfl, rfl⟩ ?_ ?_ ?_ ?_ ?_
            all_goals simp [ren, rens, sg, sig, okIn, okIns, exK, leK, leF, leV, matK, objM, renO, roSame, lh, born, AObj.born, AObj.live, injOk, kindOf, rens_ints, okIns_ints, List.range, List.range.loop, mrg, mset, pDecL, pDecC_rens, pDecC_okIns, pDecC_inj, hng, hO4.2.2.2]
          · rw [if_neg (by omega), q2] at hng
            simp only [pDecL, q1, q2]
            simp (maxSteps := 2000000) only [↓vP0, vQ0, vT0, simprocAttr, pDecC_rens]
            simp (disch := omega) only [wr64, wru64, wru8, tdv, tmd, fdv]
            refine exit_of [] (.tup [numV (numGet base d).none (numGet base d).n, .int .i64 (numGet base d).err]) (pDecL (numGet base d).d) ⟨rfl, rfl⟩ ?_ ?_ ?_ ?_ ?_
            all_goals simp [ren, rens, sg, sig, okIn, okIns, exK, leK, leF, leV, matK, objM, renO, roSame, lh, born, AObj.born, AObj.live, injOk, kindOf, rens_ints, okIns_ints, List.range, List.range.loop, mrg, mset, pDecL, pDecC_rens, pDecC_okIns, pDecC_inj, hng, hO4.2.2.2]
          · rw [if_pos (by omega), q1] at hng
            simp only [pDecL, q1, q2]
            simp (maxSteps := 2000000) only [↓vP0, vQ0, vT0, simprocAttr, pDecC_rens]
            refine exit_of [] (.tup [numV (numGet base d).none (numGet base d).n, .int .i64 (numGet base d).err]) (pDecL (numGet base d).d) ⟨rfl, rfl⟩ ?_ ?_ ?_ ?_ ?_
            all_goals simp [ren, rens, sg, sig, okIn, okIns, exK, leK, leF, leV, matK, objM, renO, roSame, lh, born, AObj.born, AObj.live, injOk, kindOf, rens_ints, okIns_ints, List.range, List.range.loop, mrg, mset, pDecL, pDecC_rens, pDecC_okIns, pDecC_inj, hng, hO4.2.2.2]

end Go.Proofs.Ytbfefpkhalegmaa
