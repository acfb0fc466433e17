/- The contracts of number.get and the reference's Get. -/
import Derived.Test.YtbfefpkhalegmaaN4

set_option linter.unusedVariables false
set_option linter.unusedSimpArgs false
namespace Go.Proofs.Ytbfefpkhalegmaa
open Go
set_option maxHeartbeats 4000000
set_option maxRecDepth 20000

theorem c_room (states base n : Int) (hs : 0 ≤ states ∧ states ≤ 100000) (hn : 0 ≤ n ∧ n ≤ 100000) (hb : -9223372036854775808 ≤ base ∧ base ≤ 9223372036854775807) : LCall Try.prog 116 [.int .i64 states, .int .i64 base, .int .i64 n] [] fun r L =>
    r = .bool (decide (0 ≤ base ∧ n ≤ states - base)) ∧ L = [] := by
  refine lcall_of_vc tyok Try.func116 rfl (by rfl) Try.results116 Try.ntmps116 ?_; intro C hD
  by_cases h0 : 0 ≤ base
  · have e0 : decide (0 ≤ base) = true := decide_eq_true h0
    by_cases h1 : base ≤ states
    · have e1 : decide (base ≤ states) = true := decide_eq_true h1
      simp (maxSteps := 2000000) only [↓vP0, vQ0, vT0, simprocAttr, e0, e1]
      simp (disch := omega) only [wr64, wru64, wru8, tdv, tmd, fdv]
      exact exit_keep (L1 := []) ⟨by simp [h0], rfl⟩ trivial trivial
    · have e1 : decide (base ≤ states) = false := decide_eq_false h1
      simp (maxSteps := 2000000) only [↓vP0, vQ0, vT0, simprocAttr, e0, e1]
      exact exit_keep (L1 := []) ⟨by rw [decide_eq_false (by omega)], rfl⟩ trivial trivial
  · have e0 : decide (0 ≤ base) = false := decide_eq_false h0
    simp (maxSteps := 2000000) only [↓vP0, vQ0, vT0, simprocAttr, e0]
    exact exit_keep (L1 := []) ⟨by rw [decide_eq_false (by omega)], rfl⟩ trivial trivial
theorem c_rNGet (d : Dec) (hd : d.Ok) (base : Nat) (hb : base + 48 ≤ d.st.length) (hcl : d.code.length ≤ 1099511627776) :
    LCall Try.prog 74 [.ptr 0 0, .int .i64 base] (rDecL d) fun r L => r = .tup [numV (numGet base d).none (numGet base d).n, .int .i64 (numGet base d).err] ∧ L = rDecL (numGet base d).d := by
  have hsl := hd.1.2.1
  have h0 : Of d d := ⟨hd, rfl, rfl, rfl⟩
  refine lcall_of_vc tyok Try.func74 rfl (by rfl) Try.results74 Try.ntmps74 ?_; intro C hD
  simp only [rDecL] at hD ⊢
  simp (maxSteps := 2000000) only [↓vP0, vQ0, vT0, simprocAttr]
  refine callK_det (c_rDModel d hsl) [0, 1, 2] ?_ ?_ ?_ rfl (by simp [rDecR]) ?_
  · simp [ren, rens, sg, sig, okIn, okIns, exK, leK, leF, leV, matK, objM, renO, roSame, lh, born, AObj.born, AObj.live, injOk, kindOf, rens_ints, okIns_ints, List.range, List.range.loop, mrg, mset]
  · simp [ren, rens, sg, sig, okIn, okIns, exK, leK, leF, leV, matK, objM, renO, roSame, lh, born, AObj.born, AObj.live, injOk, kindOf, rens_ints, okIns_ints, List.range, List.range.loop, mrg, mset, rDecR]
  · simp [ren, rens, sg, sig, okIn, okIns, exK, leK, leF, leV, matK, objM, renO, roSame, lh, born, AObj.born, AObj.live, injOk, kindOf, rens_ints, okIns_ints, List.range, List.range.loop, mrg, mset, rDecR, rDecL, rDecC_rens, rDecC_okIns, rDecC_inj]
  simp only [rDecR]
  simp (maxSteps := 2000000) only [↓vP0, vQ0, vT0, simprocAttr, rDecC_rens]
  refine callK_pure (c_room d.st.length base 48 (by omega) (by omega) (by omega)) rfl rfl ?_
  rw [decide_eq_true (show (0 : Int) ≤ base ∧ 48 ≤ (d.st.length : Int) - base by omega)]
  simp (maxSteps := 2000000) only [↓vP0, vQ0, vT0, simprocAttr, rDecC_rens]
  refine callK_det (c_rGet d h0.1 (base) (by have := h0.2.2.1; omega) (by rw [h0.2.2.2]; exact hcl)) [0, 1, 2] ?_ ?_ ?_ rfl (by simp [rDecL]) ?_
  · simp [ren, rens, sg, sig, okIn, okIns, exK, leK, leF, leV, matK, objM, renO, roSame, lh, born, AObj.born, AObj.live, injOk, kindOf, rens_ints, okIns_ints, List.range, List.range.loop, mrg, mset]
  · simp [ren, rens, sg, sig, okIn, okIns, exK, leK, leF, leV, matK, objM, renO, roSame, lh, born, AObj.born, AObj.live, injOk, kindOf, rens_ints, okIns_ints, List.range, List.range.loop, mrg, mset, rDecL]
  · simp [ren, rens, sg, sig, okIn, okIns, exK, leK, leF, leV, matK, objM, renO, roSame, lh, born, AObj.born, AObj.live, injOk, kindOf, rens_ints, okIns_ints, List.range, List.range.loop, mrg, mset, rDecL, rDecC_rens, rDecC_okIns, rDecC_inj, h0.2.2.2]
  have h1 := h0.after (c := base) (by omega)
  have hng : numGet base d = if d.err base ≠ 0 then ⟨false, 0, d.err base, d.after base⟩ else if d.got base = 1 then ⟨true, 0, 0, d.after base⟩ else numGetL base (d.after base) := rfl
  rcases derr d base with ⟨q1, q2⟩ | ⟨q1, q2⟩
  case inr =>
    simp only [rDecL, q1, q2]
    rw [if_pos (by omega)] at hng
    simp (maxSteps := 2000000) only [↓vP0, vQ0, vT0, simprocAttr, rDecC_rens]
    refine exit_of [] (.tup [numV (numGet base d).none (numGet base d).n, .int .i64 (numGet base d).err]) (rDecL (numGet base d).d) ⟨rfl, rfl⟩ ?_ ?_ ?_ ?_ ?_
    all_goals simp [ren, rens, sg, sig, okIn, okIns, exK, leK, leF, leV, matK, objM, renO, roSame, lh, born, AObj.born, AObj.live, injOk, kindOf, rens_ints, okIns_ints, List.range, List.range.loop, mrg, mset, rDecL, rDecC_rens, rDecC_okIns, rDecC_inj, hng, q1, h1.2.2.2]
  rw [if_neg (by omega)] at hng
  simp only [rDecL, q1]
  by_cases hg : d.got base = 1
  · rw [if_pos hg] at hng
    simp only [hg]
    simp (maxSteps := 2000000) only [↓vP0, vQ0, vT0, simprocAttr, rDecC_rens]
    refine exit_of [] (.tup [numV (numGet base d).none (numGet base d).n, .int .i64 (numGet base d).err]) (rDecL (numGet base d).d) ⟨rfl, rfl⟩ ?_ ?_ ?_ ?_ ?_
    all_goals simp [ren, rens, sg, sig, okIn, okIns, exK, leK, leF, leV, matK, objM, renO, roSame, lh, born, AObj.born, AObj.live, injOk, kindOf, rens_ints, okIns_ints, List.range, List.range.loop, mrg, mset, rDecL, rDecC_rens, rDecC_okIns, rDecC_inj, hng, h1.2.2.2]
  have hg0 : d.got base = 0 := by rcases q2 with h | h; exact h; exact absurd h hg
  rw [if_neg hg] at hng
  simp only [hg0]
  simp (maxSteps := 2000000) only [↓vP0, vQ0, vT0, simprocAttr, rDecC_rens]
  refine loopK_of tyok hD (α := Nat × Dec) (fun s => s.1 ≤ 20 ∧ Of d s.2 ∧ lenD base (20 - s.1) s.1 s.2 = lenD base 20 0 (d.after base)) (fun s => 20 - s.1) (fun s => [.ptr 0 0, .int .i64 base, .junk, .junk, .ptr 3 0, .junk, .junk, .junk, .int .i64 s.1, .junk, .junk, .junk, .junk, .junk, .junk, .junk, .junk, .junk, .junk, .junk, .junk, .junk, .junk, .junk, .junk, .junk, .junk, .junk, .junk, .junk, .junk, .junk, .junk, .junk, .junk, .junk, .junk, .junk, .junk, .junk, .junk, .junk, .junk, .junk, .junk, .junk, .junk, .junk, .junk, .junk, .junk, .junk, .junk, .junk, .junk, .junk, .junk, .junk, .junk, .junk, .junk, .junk, .junk, .junk, .junk, .junk, .junk, .junk, .junk, .junk, .junk, .junk, .junk, .junk, .junk, .junk, .junk, .junk, .junk, .junk, .junk, .junk, .junk, .junk, .junk, .junk, .junk, .junk, .junk, .junk, .junk, .junk, .junk, .junk, .junk, .junk, .junk, .junk, .junk, .junk, .junk, .junk, .junk, .junk, .junk, .junk, .junk, .junk, .junk, .junk, .junk, .junk])
    (fun s => [.own (rDecC s.2 1 2) 158, .own (ints .i64 s.2.st) 3, .ro (ints .u8 d.code) 5, .own [.bool false, .int .i64 0] 28]) (0, d.after base) ⟨by omega, h1, rfl⟩ ?_ ?_
  · refine ⟨by simp [leF, leV], ⟨_, by first | rfl | exact (List.append_nil _).symm⟩, by simp, by simp [okIns, okIn], by simp [AObj.born, okIns, okIn, AObj.cells, okIns_ints, rDecC_okIns]⟩
  rintro ⟨c, D⟩ ⟨hc, hO, hln⟩
  simp only at hc hO hln
  simp (maxSteps := 2000000) only [↓vP0, vQ0, vT0, simprocAttr, rDecC_rens]
  (with_reducible first | refine condK_dec (fun h => ?_) (fun h => ?_) | refine condK_beq (fun h => ?_) (fun h => ?_) | refine condK_bne (fun h => ?_) (fun h => ?_) | refine condK_intro (fun h => ?_) (fun h => ?_))
  · have hc' : c < 20 := by omega
    obtain ⟨k, hk⟩ : ∃ k, 20 - c = k + 1 := ⟨19 - c, by omega⟩
    rw [hk, lenD_succ] at hln
    have hw1 : IntKind.i64.wrap (IntKind.i64.wrap ((base : Int) + 1) + (c : Int)) = ((base + 1 + c : Nat) : Int) := by
      rw [wr64 (_ + 1) (by omega) (by omega), wr64 _ (by omega) (by omega)]; omega
    have hO' := hO.after (c := base + 1 + c) (by omega)
    simp (maxSteps := 2000000) only [↓vP0, vQ0, vT0, simprocAttr, rDecC_rens, hw1]
    refine callK_det (c_rGet D hO.1 (base + 1 + c) (by have := hO.2.2.1; omega) (by rw [hO.2.2.2]; exact hcl)) [0, 1, 2] ?_ ?_ ?_ rfl (by simp [rDecL]) ?_
    · simp [ren, rens, sg, sig, okIn, okIns, exK, leK, leF, leV, matK, objM, renO, roSame, lh, born, AObj.born, AObj.live, injOk, kindOf, rens_ints, okIns_ints, List.range, List.range.loop, mrg, mset]
    · simp [ren, rens, sg, sig, okIn, okIns, exK, leK, leF, leV, matK, objM, renO, roSame, lh, born, AObj.born, AObj.live, injOk, kindOf, rens_ints, okIns_ints, List.range, List.range.loop, mrg, mset, rDecL]
    · simp [ren, rens, sg, sig, okIn, okIns, exK, leK, leF, leV, matK, objM, renO, roSame, lh, born, AObj.born, AObj.live, injOk, kindOf, rens_ints, okIns_ints, List.range, List.range.loop, mrg, mset, rDecL, rDecC_rens, rDecC_okIns, rDecC_inj, hO.2.2.2]
    rcases derr D (base + 1 + c) with ⟨q1, q2⟩ | ⟨q1, q2⟩
    case inr =>
      simp only [rDecL, q1, q2]
      rw [if_pos (by omega), q1] at hln
      have hng : numGet base d = ⟨false, 0, 6, D.after (base + 1 + c)⟩ := by rw [hng, numGetL, ← hln]; simp
      simp (maxSteps := 2000000) only [↓vP0, vQ0, vT0, simprocAttr, rDecC_rens]
      refine exit_of [] (.tup [numV (numGet base d).none (numGet base d).n, .int .i64 (numGet base d).err]) (rDecL (numGet base d).d) ⟨rfl, rfl⟩ ?_ ?_ ?_ ?_ ?_
      all_goals simp [ren, rens, sg, sig, okIn, okIns, exK, leK, leF, leV, matK, objM, renO, roSame, lh, born, AObj.born, AObj.live, injOk, kindOf, rens_ints, okIns_ints, List.range, List.range.loop, mrg, mset, rDecL, rDecC_rens, rDecC_okIns, rDecC_inj, hng, hO'.2.2.2]
    rw [if_neg (by omega)] at hln
    by_cases hgz : D.got (base + 1 + c) = 0
    · rw [if_pos hgz] at hln
      replace hln := hln.symm
      simp only [rDecL, q1, hgz]
      clear hO
      have hO := hO'
      simp (maxSteps := 2000000) only [↓vP0, vQ0, vT0, simprocAttr, rDecC_rens]
      refine loopK_of tyok hD (α := Nat × Int × Dec) (fun s => s.1 ≤ c ∧ Of d s.2.2 ∧ digD base c (c - s.1) s.1 s.2.1 s.2.2 = digD base c c 0 1 (D.after (base + 1 + c)) ∧ 0 ≤ s.2.1 ∧ s.2.1 < ((2 ^ (s.1 + 1) : Nat) : Int)) (fun s => c - s.1)
        (fun s => [.ptr 0 0, .int .i64 base, .junk, .junk, .ptr 3 0, .junk, .junk, .junk, .int .i64 c, .junk, .junk, .int .i64 s.2.1, .int .i64 s.1, .junk, .junk, .junk, .junk, .junk, .junk, .junk, .junk, .junk, .junk, .junk, .junk, .junk, .junk, .junk, .junk, .junk, .junk, .junk, .junk, .junk, .junk, .junk, .junk, .junk, .junk, .junk, .junk, .junk, .junk, .junk, .junk, .junk, .junk, .junk, .junk, .junk, .junk, .junk, .junk, .junk, .junk, .junk, .junk, .junk, .junk, .junk, .junk, .junk, .junk, .junk, .junk, .junk, .junk, .junk, .junk, .junk, .junk, .junk, .junk, .junk, .junk, .junk, .junk, .junk, .junk, .junk, .junk, .junk, .junk, .junk, .junk, .junk, .junk, .junk, .junk, .junk, .junk, .junk, .junk, .junk, .junk, .junk, .junk, .junk, .junk, .junk, .junk, .junk, .junk, .junk, .junk, .junk, .junk, .junk, .junk, .junk, .junk, .junk]) (fun s => [.own (rDecC s.2.2 1 2) 158, .own (ints .i64 s.2.2.st) 3, .ro (ints .u8 d.code) 5, .own [.bool false, .int .i64 0] 28]) (0, 1, (D.after (base + 1 + c))) ⟨by omega, hO, rfl, by simp, by simp⟩ ?_ ?_
      · refine ⟨by simp [leF, leV], ⟨_, by first | rfl | exact (List.append_nil _).symm⟩, by simp, by simp [okIns, okIn], by simp [AObj.born, okIns, okIn, AObj.cells, okIns_ints, rDecC_okIns]⟩
      rintro ⟨i, v, E⟩ ⟨hi, hO2, hdg, hv0, hv1⟩
      simp only at hi hO2 hdg hv0 hv1
      simp (maxSteps := 2000000) only [↓vP0, vQ0, vT0, simprocAttr, rDecC_rens]
      (with_reducible first | refine condK_dec (fun h => ?_) (fun h => ?_) | refine condK_beq (fun h => ?_) (fun h => ?_) | refine condK_bne (fun h => ?_) (fun h => ?_) | refine condK_intro (fun h => ?_) (fun h => ?_))
      · have hi' : i < c := by omega
        have hp := pow_bd (show i + 1 ≤ 20 by omega)
        have hp2 : 2 ^ (i + 1 + 1) = 2 ^ (i + 1) * 2 := Nat.pow_succ ..
        obtain ⟨k, hk⟩ : ∃ k, c - i = k + 1 := ⟨c - i - 1, by omega⟩
        rw [hk, digD_succ] at hdg
        have hct : dctx c i + 1 ≤ 48 := by simp only [dctx]; split <;> omega
        have hO3 := hO2.after (c := base + dctx c i) (by omega)
        simp (maxSteps := 2000000) only [↓vP0, vQ0, vT0, simprocAttr, rDecC_rens]
        (try simp (disch := omega) only [wr64, wru64, wru8, tdv, tmd, fdv])
        (with_reducible first | refine condK_dec (fun h => ?_) (fun h => ?_) | refine condK_beq (fun h => ?_) (fun h => ?_) | refine condK_bne (fun h => ?_) (fun h => ?_) | refine condK_intro (fun h => ?_) (fun h => ?_))
        · simp (maxSteps := 2000000) only [↓vP0, vQ0, vT0, simprocAttr, rDecC_rens]
          have hw2 : IntKind.i64.wrap ((base : Int) + IntKind.i64.wrap (23 + (c : Int))) = ((base + dctx c i : Nat) : Int) := by
            have : (23 + (c : Int) : Int) = (dctx c i : Nat) := by simp only [dctx]; first | (rw [if_pos (by omega)]; omega) | (rw [if_neg (by omega)]; omega)
            rw [wr64 (23 + _) (by omega) (by omega), this, wr64 _ (by omega) (by omega)]; omega
          simp (maxSteps := 2000000) only [↓vP0, vQ0, vT0, simprocAttr, hw2]
          refine callK_det (c_rGet E hO2.1 (base + dctx c i) (by have := hO2.2.2.1; omega) (by rw [hO2.2.2.2]; exact hcl)) [0, 1, 2] ?_ ?_ ?_ rfl (by simp [rDecL]) ?_
          · simp [ren, rens, sg, sig, okIn, okIns, exK, leK, leF, leV, matK, objM, renO, roSame, lh, born, AObj.born, AObj.live, injOk, kindOf, rens_ints, okIns_ints, List.range, List.range.loop, mrg, mset]
          · simp [ren, rens, sg, sig, okIn, okIns, exK, leK, leF, leV, matK, objM, renO, roSame, lh, born, AObj.born, AObj.live, injOk, kindOf, rens_ints, okIns_ints, List.range, List.range.loop, mrg, mset, rDecL]
          · simp [ren, rens, sg, sig, okIn, okIns, exK, leK, leF, leV, matK, objM, renO, roSame, lh, born, AObj.born, AObj.live, injOk, kindOf, rens_ints, okIns_ints, List.range, List.range.loop, mrg, mset, rDecL, rDecC_rens, rDecC_okIns, rDecC_inj, hO2.2.2.2]
          rcases derr E (base + dctx c i) with ⟨q1, q2⟩ | ⟨q1, q2⟩
          case inr =>
            simp only [rDecL, q1, q2]
            rw [if_pos (by omega), q1] at hdg
            have hng : numGet base d = ⟨false, 0, 6, E.after (base + dctx c i)⟩ := by rw [hng, numGetL, hln]; simp only [ne_eq, not_true_eq_false, if_false]; rw [numGetD, ← hdg]; simp
            simp (maxSteps := 2000000) only [↓vP0, vQ0, vT0, simprocAttr, rDecC_rens]
            refine exit_of [] (.tup [numV (numGet base d).none (numGet base d).n, .int .i64 (numGet base d).err]) (rDecL (numGet base d).d) ⟨rfl, rfl⟩ ?_ ?_ ?_ ?_ ?_
            all_goals simp [ren, rens, sg, sig, okIn, okIns, exK, leK, leF, leV, matK, objM, renO, roSame, lh, born, AObj.born, AObj.live, injOk, kindOf, rens_ints, okIns_ints, List.range, List.range.loop, mrg, mset, rDecL, rDecC_rens, rDecC_okIns, rDecC_inj, hng, hO3.2.2.2]
          case inl =>
            rw [if_neg (by omega)] at hdg
            have hgb : 0 ≤ E.got (base + dctx c i) ∧ E.got (base + dctx c i) ≤ 1 := by rcases q2 with h | h <;> omega
            simp only [rDecL, q1]
            simp (maxSteps := 2000000) only [↓vP0, vQ0, vT0, simprocAttr, rDecC_rens]
            simp (disch := omega) only [wr64, wru64, wru8, tdv, tmd, fdv]
            refine ⟨(i + 1, 2 * v + E.got (base + dctx c i), E.after (base + dctx c i)), ⟨by omega, hO3, by rw [← hdg]; congr 1; omega, by simp only; omega, by simp only; rw [hp2]; omega⟩, by simp only; omega, ?_⟩
            simp only [Int.natCast_add, Int.cast_ofNat_Int]
            refine ⟨by simp [leF, leV], ⟨_, by first | rfl | exact (List.append_nil _).symm⟩, by simp, by simp [okIns, okIn], by simp [AObj.born, okIns, okIn, AObj.cells, okIns_ints, rDecC_okIns]⟩
        · simp (maxSteps := 2000000) only [↓vP0, vQ0, vT0, simprocAttr, rDecC_rens]
          have hw2 : IntKind.i64.wrap ((base : Int) + min (IntKind.i64.wrap (43 + (i : Int))) 47) = ((base + dctx c i : Nat) : Int) := by
            have : (min (43 + (i : Int)) 47 : Int) = (dctx c i : Nat) := by simp only [dctx]; first | (rw [if_pos (by omega)]; omega) | (rw [if_neg (by omega)]; omega)
            rw [wr64 (43 + _) (by omega) (by omega), this, wr64 _ (by omega) (by omega)]; omega
          simp (maxSteps := 2000000) only [↓vP0, vQ0, vT0, simprocAttr, hw2]
          refine callK_det (c_rGet E hO2.1 (base + dctx c i) (by have := hO2.2.2.1; omega) (by rw [hO2.2.2.2]; exact hcl)) [0, 1, 2] ?_ ?_ ?_ rfl (by simp [rDecL]) ?_
          · simp [ren, rens, sg, sig, okIn, okIns, exK, leK, leF, leV, matK, objM, renO, roSame, lh, born, AObj.born, AObj.live, injOk, kindOf, rens_ints, okIns_ints, List.range, List.range.loop, mrg, mset]
          · simp [ren, rens, sg, sig, okIn, okIns, exK, leK, leF, leV, matK, objM, renO, roSame, lh, born, AObj.born, AObj.live, injOk, kindOf, rens_ints, okIns_ints, List.range, List.range.loop, mrg, mset, rDecL]
          · simp [ren, rens, sg, sig, okIn, okIns, exK, leK, leF, leV, matK, objM, renO, roSame, lh, born, AObj.born, AObj.live, injOk, kindOf, rens_ints, okIns_ints, List.range, List.range.loop, mrg, mset, rDecL, rDecC_rens, rDecC_okIns, rDecC_inj, hO2.2.2.2]
          rcases derr E (base + dctx c i) with ⟨q1, q2⟩ | ⟨q1, q2⟩
          case inr =>
            simp only [rDecL, q1, q2]
            rw [if_pos (by omega), q1] at hdg
            have hng : numGet base d = ⟨false, 0, 6, E.after (base + dctx c i)⟩ := by rw [hng, numGetL, hln]; simp only [ne_eq, not_true_eq_false, if_false]; rw [numGetD, ← hdg]; simp
            simp (maxSteps := 2000000) only [↓vP0, vQ0, vT0, simprocAttr, rDecC_rens]
            refine exit_of [] (.tup [numV (numGet base d).none (numGet base d).n, .int .i64 (numGet base d).err]) (rDecL (numGet base d).d) ⟨rfl, rfl⟩ ?_ ?_ ?_ ?_ ?_
            all_goals simp [ren, rens, sg, sig, okIn, okIns, exK, leK, leF, leV, matK, objM, renO, roSame, lh, born, AObj.born, AObj.live, injOk, kindOf, rens_ints, okIns_ints, List.range, List.range.loop, mrg, mset, rDecL, rDecC_rens, rDecC_okIns, rDecC_inj, hng, hO3.2.2.2]
          case inl =>
            rw [if_neg (by omega)] at hdg
            have hgb : 0 ≤ E.got (base + dctx c i) ∧ E.got (base + dctx c i) ≤ 1 := by rcases q2 with h | h <;> omega
            simp only [rDecL, q1]
            simp (maxSteps := 2000000) only [↓vP0, vQ0, vT0, simprocAttr, rDecC_rens]
            simp (disch := omega) only [wr64, wru64, wru8, tdv, tmd, fdv]
            refine ⟨(i + 1, 2 * v + E.got (base + dctx c i), E.after (base + dctx c i)), ⟨by omega, hO3, by rw [← hdg]; congr 1; omega, by simp only; omega, by simp only; rw [hp2]; omega⟩, by simp only; omega, ?_⟩
            simp only [Int.natCast_add, Int.cast_ofNat_Int]
            refine ⟨by simp [leF, leV], ⟨_, by first | rfl | exact (List.append_nil _).symm⟩, by simp, by simp [okIns, okIn], by simp [AObj.born, okIns, okIn, AObj.cells, okIns_ints, rDecC_okIns]⟩
      · have hi' : i = c := by omega
        have hdg2 : digD base c c 0 1 (D.after (base + 1 + c)) = (0, v, E) := by rw [← hdg, hi', Nat.sub_self]; rfl
        have hv2 : v < 2097152 := by
          have := Nat.pow_le_pow_right (n := 2) (by decide) (show i + 1 ≤ 21 by omega)
          have : (2 : Nat) ^ 21 = 2097152 := by decide
          omega
        have hng : numGet base d = numGetV base v E := by rw [hng, numGetL, hln]; simp only [ne_eq, not_true_eq_false, if_false]; rw [numGetD, hdg2]; simp
        clear hdg
        simp (maxSteps := 2000000) only [↓vP0, vQ0, vT0, simprocAttr, rDecC_rens]
        (with_reducible first | refine condK_dec (fun h => ?_) (fun h => ?_) | refine condK_beq (fun h => ?_) (fun h => ?_) | refine condK_bne (fun h => ?_) (fun h => ?_) | refine condK_intro (fun h => ?_) (fun h => ?_))
        · have hng : numGet base d = ⟨false, 0, 3, E⟩ := by rw [hng, numGetV, if_pos (by omega)]
          simp (maxSteps := 2000000) only [↓vP0, vQ0, vT0, simprocAttr, rDecC_rens]
          refine exit_of [] (.tup [numV (numGet base d).none (numGet base d).n, .int .i64 (numGet base d).err]) (rDecL (numGet base d).d) ⟨rfl, rfl⟩ ?_ ?_ ?_ ?_ ?_
          all_goals simp [ren, rens, sg, sig, okIn, okIns, exK, leK, leF, leV, matK, objM, renO, roSame, lh, born, AObj.born, AObj.live, injOk, kindOf, rens_ints, okIns_ints, List.range, List.range.loop, mrg, mset, rDecL, rDecC_rens, rDecC_okIns, rDecC_inj, hng, hO2.2.2.2]
        · simp (maxSteps := 2000000) only [↓vP0, vQ0, vT0, simprocAttr, rDecC_rens]
          (with_reducible first | refine condK_dec (fun h => ?_) (fun h => ?_) | refine condK_beq (fun h => ?_) (fun h => ?_) | refine condK_bne (fun h => ?_) (fun h => ?_) | refine condK_intro (fun h => ?_) (fun h => ?_))
          · have hng : numGet base d = ⟨false, 0, 0, E⟩ := by rw [hng, numGetV, if_neg (by omega), if_pos (by omega)]
            simp (maxSteps := 2000000) only [↓vP0, vQ0, vT0, simprocAttr, rDecC_rens]
            refine exit_of [] (.tup [numV (numGet base d).none (numGet base d).n, .int .i64 (numGet base d).err]) (rDecL (numGet base d).d) ⟨rfl, rfl⟩ ?_ ?_ ?_ ?_ ?_
            all_goals simp [ren, rens, sg, sig, okIn, okIns, exK, leK, leF, leV, matK, objM, renO, roSame, lh, born, AObj.born, AObj.live, injOk, kindOf, rens_ints, okIns_ints, List.range, List.range.loop, mrg, mset, rDecL, rDecC_rens, rDecC_okIns, rDecC_inj, hng, hO2.2.2.2]
          · rw [numGetV, if_neg (by omega), if_neg (by omega)] at hng
            have hw3 : IntKind.i64.wrap ((base : Int) + 22) = ((base + 22 : Nat) : Int) := by rw [wr64 _ (by omega) (by omega)]; omega
            have hO4 := hO2.after (c := base + 22) (by omega)
            simp (maxSteps := 2000000) only [↓vP0, vQ0, vT0, simprocAttr, rDecC_rens, hw3]
            refine callK_det (c_rGet E hO2.1 (base + 22) (by have := hO2.2.2.1; omega) (by rw [hO2.2.2.2]; exact hcl)) [0, 1, 2] ?_ ?_ ?_ rfl (by simp [rDecL]) ?_
            · simp [ren, rens, sg, sig, okIn, okIns, exK, leK, leF, leV, matK, objM, renO, roSame, lh, born, AObj.born, AObj.live, injOk, kindOf, rens_ints, okIns_ints, List.range, List.range.loop, mrg, mset]
            · simp [ren, rens, sg, sig, okIn, okIns, exK, leK, leF, leV, matK, objM, renO, roSame, lh, born, AObj.born, AObj.live, injOk, kindOf, rens_ints, okIns_ints, List.range, List.range.loop, mrg, mset, rDecL]
            · simp [ren, rens, sg, sig, okIn, okIns, exK, leK, leF, leV, matK, objM, renO, roSame, lh, born, AObj.born, AObj.live, injOk, kindOf, rens_ints, okIns_ints, List.range, List.range.loop, mrg, mset, rDecL, rDecC_rens, rDecC_okIns, rDecC_inj, hO2.2.2.2]
            rcases derr E (base + 22) with ⟨q1, q2 | q2⟩ | ⟨q1, q2⟩
            · rw [if_neg (by omega), q2] at hng
              simp only [rDecL, q1, q2]
              simp (maxSteps := 2000000) only [↓vP0, vQ0, vT0, simprocAttr, rDecC_rens]
              simp (disch := omega) only [wr64, wru64, wru8, tdv, tmd, fdv]
              refine exit_of [] (.tup [numV (numGet base d).none (numGet base d).n, .int .i64 (numGet base d).err]) (rDecL (numGet base d).d) ⟨rfl, rfl⟩ ?_ ?_ ?_ ?_ ?_
              all_goals simp [ren, rens, sg, sig, okIn, okIns, exK, leK, leF, leV, matK, objM, renO, roSame, lh, born, AObj.born, AObj.live, injOk, kindOf, rens_ints, okIns_ints, List.range, List.range.loop, mrg, mset, rDecL, rDecC_rens, rDecC_okIns, rDecC_inj, hng, hO4.2.2.2]
            · rw [if_neg (by omega), q2] at hng
              simp only [rDecL, q1, q2]
              simp (maxSteps := 2000000) only [↓vP0, vQ0, vT0, simprocAttr, rDecC_rens]
              simp (disch := omega) only [wr64, wru64, wru8, tdv, tmd, fdv]
              refine exit_of [] (.tup [numV (numGet base d).none (numGet base d).n, .int .i64 (numGet base d).err]) (rDecL (numGet base d).d) ⟨rfl, rfl⟩ ?_ ?_ ?_ ?_ ?_
              all_goals simp [ren, rens, sg, sig, okIn, okIns, exK, leK, leF, leV, matK, objM, renO, roSame, lh, born, AObj.born, AObj.live, injOk, kindOf, rens_ints, okIns_ints, List.range, List.range.loop, mrg, mset, rDecL, rDecC_rens, rDecC_okIns, rDecC_inj, hng, hO4.2.2.2]
            · rw [if_pos (by omega), q1] at hng
              simp only [rDecL, q1, q2]
              simp (maxSteps := 2000000) only [↓vP0, vQ0, vT0, simprocAttr, rDecC_rens]
              refine exit_of [] (.tup [numV (numGet base d).none (numGet base d).n, .int .i64 (numGet base d).err]) (rDecL (numGet base d).d) ⟨rfl, rfl⟩ ?_ ?_ ?_ ?_ ?_
              all_goals simp [ren, rens, sg, sig, okIn, okIns, exK, leK, leF, leV, matK, objM, renO, roSame, lh, born, AObj.born, AObj.live, injOk, kindOf, rens_ints, okIns_ints, List.range, List.range.loop, mrg, mset, rDecL, rDecC_rens, rDecC_okIns, rDecC_inj, hng, hO4.2.2.2]
    · rw [if_neg hgz] at hln
      have hgo : D.got (base + 1 + c) = 1 := by rcases q2 with h | h; exact absurd h hgz; exact h
      simp only [rDecL, q1, hgo]
      simp (maxSteps := 2000000) only [↓vP0, vQ0, vT0, simprocAttr, rDecC_rens]
      simp (disch := omega) only [wr64, wru64, wru8, tdv, tmd, fdv]
      refine ⟨(c + 1, D.after (base + 1 + c)), ⟨by omega, hO', by rw [← hln]; congr 1; omega⟩, by simp only; omega, ?_⟩
      simp only [Int.natCast_add, Int.cast_ofNat_Int]
      refine ⟨by simp [leF, leV], ⟨_, by first | rfl | exact (List.append_nil _).symm⟩, by simp, by simp [okIns, okIn], by simp [AObj.born, okIns, okIn, AObj.cells, okIns_ints, rDecC_okIns]⟩
  · have hc' : c = 20 := by omega
    have hz : lenD base (20 - c) c D = (0, c, D) := by rw [show 20 - c = 0 by omega]; rfl
    replace hln : lenD base 20 0 (d.after base) = (0, c, D) := hln.symm.trans hz
    clear hz
    simp (maxSteps := 2000000) only [↓vP0, vQ0, vT0, simprocAttr, rDecC_rens]
    refine loopK_of tyok hD (α := Nat × Int × Dec) (fun s => s.1 ≤ c ∧ Of d s.2.2 ∧ digD base c (c - s.1) s.1 s.2.1 s.2.2 = digD base c c 0 1 D ∧ 0 ≤ s.2.1 ∧ s.2.1 < ((2 ^ (s.1 + 1) : Nat) : Int)) (fun s => c - s.1)
      (fun s => [.ptr 0 0, .int .i64 base, .junk, .junk, .ptr 3 0, .junk, .junk, .junk, .int .i64 c, .junk, .junk, .int .i64 s.2.1, .int .i64 s.1, .junk, .junk, .junk, .junk, .junk, .junk, .junk, .junk, .junk, .junk, .junk, .junk, .junk, .junk, .junk, .junk, .junk, .junk, .junk, .junk, .junk, .junk, .junk, .junk, .junk, .junk, .junk, .junk, .junk, .junk, .junk, .junk, .junk, .junk, .junk, .junk, .junk, .junk, .junk, .junk, .junk, .junk, .junk, .junk, .junk, .junk, .junk, .junk, .junk, .junk, .junk, .junk, .junk, .junk, .junk, .junk, .junk, .junk, .junk, .junk, .junk, .junk, .junk, .junk, .junk, .junk, .junk, .junk, .junk, .junk, .junk, .junk, .junk, .junk, .junk, .junk, .junk, .junk, .junk, .junk, .junk, .junk, .junk, .junk, .junk, .junk, .junk, .junk, .junk, .junk, .junk, .junk, .junk, .junk, .junk, .junk, .junk, .junk, .junk]) (fun s => [.own (rDecC s.2.2 1 2) 158, .own (ints .i64 s.2.2.st) 3, .ro (ints .u8 d.code) 5, .own [.bool false, .int .i64 0] 28]) (0, 1, D) ⟨by omega, hO, rfl, by simp, by simp⟩ ?_ ?_
    · refine ⟨by simp [leF, leV], ⟨_, by first | rfl | exact (List.append_nil _).symm⟩, by simp, by simp [okIns, okIn], by simp [AObj.born, okIns, okIn, AObj.cells, okIns_ints, rDecC_okIns]⟩
    rintro ⟨i, v, E⟩ ⟨hi, hO2, hdg, hv0, hv1⟩
    simp only at hi hO2 hdg hv0 hv1
    simp (maxSteps := 2000000) only [↓vP0, vQ0, vT0, simprocAttr, rDecC_rens]
    (with_reducible first | refine condK_dec (fun h => ?_) (fun h => ?_) | refine condK_beq (fun h => ?_) (fun h => ?_) | refine condK_bne (fun h => ?_) (fun h => ?_) | refine condK_intro (fun h => ?_) (fun h => ?_))
    · have hi' : i < c := by omega
      have hp := pow_bd (show i + 1 ≤ 20 by omega)
      have hp2 : 2 ^ (i + 1 + 1) = 2 ^ (i + 1) * 2 := Nat.pow_succ ..
      obtain ⟨k, hk⟩ : ∃ k, c - i = k + 1 := ⟨c - i - 1, by omega⟩
      rw [hk, digD_succ] at hdg
      have hct : dctx c i + 1 ≤ 48 := by simp only [dctx]; split <;> omega
      have hO3 := hO2.after (c := base + dctx c i) (by omega)
      simp (maxSteps := 2000000) only [↓vP0, vQ0, vT0, simprocAttr, rDecC_rens]
      (try simp (disch := omega) only [wr64, wru64, wru8, tdv, tmd, fdv])
      (with_reducible first | refine condK_dec (fun h => ?_) (fun h => ?_) | refine condK_beq (fun h => ?_) (fun h => ?_) | refine condK_bne (fun h => ?_) (fun h => ?_) | refine condK_intro (fun h => ?_) (fun h => ?_))
      · simp (maxSteps := 2000000) only [↓vP0, vQ0, vT0, simprocAttr, rDecC_rens]
        have hw2 : IntKind.i64.wrap ((base : Int) + IntKind.i64.wrap (23 + (c : Int))) = ((base + dctx c i : Nat) : Int) := by
          have : (23 + (c : Int) : Int) = (dctx c i : Nat) := by simp only [dctx]; first | (rw [if_pos (by omega)]; omega) | (rw [if_neg (by omega)]; omega)
          rw [wr64 (23 + _) (by omega) (by omega), this, wr64 _ (by omega) (by omega)]; omega
        simp (maxSteps := 2000000) only [↓vP0, vQ0, vT0, simprocAttr, hw2]
        refine callK_det (c_rGet E hO2.1 (base + dctx c i) (by have := hO2.2.2.1; omega) (by rw [hO2.2.2.2]; exact hcl)) [0, 1, 2] ?_ ?_ ?_ rfl (by simp [rDecL]) ?_
        · simp [ren, rens, sg, sig, okIn, okIns, exK, leK, leF, leV, matK, objM, renO, roSame, lh, born, AObj.born, AObj.live, injOk, kindOf, rens_ints, okIns_ints, List.range, List.range.loop, mrg, mset]
        · simp [ren, rens, sg, sig, okIn, okIns, exK, leK, leF, leV, matK, objM, renO, roSame, lh, born, AObj.born, AObj.live, injOk, kindOf, rens_ints, okIns_ints, List.range, List.range.loop, mrg, mset, rDecL]
        · simp [ren, rens, sg, sig, okIn, okIns, exK, leK, leF, leV, matK, objM, renO, roSame, lh, born, AObj.born, AObj.live, injOk, kindOf, rens_ints, okIns_ints, List.range, List.range.loop, mrg, mset, rDecL, rDecC_rens, rDecC_okIns, rDecC_inj, hO2.2.2.2]
        rcases derr E (base + dctx c i) with ⟨q1, q2⟩ | ⟨q1, q2⟩
        case inr =>
          simp only [rDecL, q1, q2]
          rw [if_pos (by omega), q1] at hdg
          have hng : numGet base d = ⟨false, 0, 6, E.after (base + dctx c i)⟩ := by rw [hng, numGetL, hln]; simp only [ne_eq, not_true_eq_false, if_false]; rw [numGetD, ← hdg]; simp
          simp (maxSteps := 2000000) only [↓vP0, vQ0, vT0, simprocAttr, rDecC_rens]
          refine exit_of [] (.tup [numV (numGet base d).none (numGet base d).n, .int .i64 (numGet base d).err]) (rDecL (numGet base d).d) ⟨rfl, rfl⟩ ?_ ?_ ?_ ?_ ?_
          all_goals simp [ren, rens, sg, sig, okIn, okIns, exK, leK, leF, leV, matK, objM, renO, roSame, lh, born, AObj.born, AObj.live, injOk, kindOf, rens_ints, okIns_ints, List.range, List.range.loop, mrg, mset, rDecL, rDecC_rens, rDecC_okIns, rDecC_inj, hng, hO3.2.2.2]
        case inl =>
          rw [if_neg (by omega)] at hdg
          have hgb : 0 ≤ E.got (base + dctx c i) ∧ E.got (base + dctx c i) ≤ 1 := by rcases q2 with h | h <;> omega
          simp only [rDecL, q1]
          simp (maxSteps := 2000000) only [↓vP0, vQ0, vT0, simprocAttr, rDecC_rens]
          simp (disch := omega) only [wr64, wru64, wru8, tdv, tmd, fdv]
          refine ⟨(i + 1, 2 * v + E.got (base + dctx c i), E.after (base + dctx c i)), ⟨by omega, hO3, by rw [← hdg]; congr 1; omega, by simp only; omega, by simp only; rw [hp2]; omega⟩, by simp only; omega, ?_⟩
          simp only [Int.natCast_add, Int.cast_ofNat_Int]
          refine ⟨by simp [leF, leV], ⟨_, by first | rfl | exact (List.append_nil _).symm⟩, by simp, by simp [okIns, okIn], by simp [AObj.born, okIns, okIn, AObj.cells, okIns_ints, rDecC_okIns]⟩
      · simp (maxSteps := 2000000) only [↓vP0, vQ0, vT0, simprocAttr, rDecC_rens]
        have hw2 : IntKind.i64.wrap ((base : Int) + min (IntKind.i64.wrap (43 + (i : Int))) 47) = ((base + dctx c i : Nat) : Int) := by
          have : (min (43 + (i : Int)) 47 : Int) = (dctx c i : Nat) := by simp only [dctx]; first | (rw [if_pos (by omega)]; omega) | (rw [if_neg (by omega)]; omega)
          rw [wr64 (43 + _) (by omega) (by omega), this, wr64 _ (by omega) (by omega)]; omega
        simp (maxSteps := 2000000) only [↓vP0, vQ0, vT0, simprocAttr, hw2]
        refine callK_det (c_rGet E hO2.1 (base + dctx c i) (by have := hO2.2.2.1; omega) (by rw [hO2.2.2.2]; exact hcl)) [0, 1, 2] ?_ ?_ ?_ rfl (by simp [rDecL]) ?_
        · simp [ren, rens, sg, sig, okIn, okIns, exK, leK, leF, leV, matK, objM, renO, roSame, lh, born, AObj.born, AObj.live, injOk, kindOf, rens_ints, okIns_ints, List.range, List.range.loop, mrg, mset]
        · simp [ren, rens, sg, sig, okIn, okIns, exK, leK, leF, leV, matK, objM, renO, roSame, lh, born, AObj.born, AObj.live, injOk, kindOf, rens_ints, okIns_ints, List.range, List.range.loop, mrg, mset, rDecL]
        · simp [ren, rens, sg, sig, okIn, okIns, exK, leK, leF, leV, matK, objM, renO, roSame, lh, born, AObj.born, AObj.live, injOk, kindOf, rens_ints, okIns_ints, List.range, List.range.loop, mrg, mset, rDecL, rDecC_rens, rDecC_okIns, rDecC_inj, hO2.2.2.2]
        rcases derr E (base + dctx c i) with ⟨q1, q2⟩ | ⟨q1, q2⟩
        case inr =>
          simp only [rDecL, q1, q2]
          rw [if_pos (by omega), q1] at hdg
          have hng : numGet base d = ⟨false, 0, 6, E.after (base + dctx c i)⟩ := by rw [hng, numGetL, hln]; simp only [ne_eq, not_true_eq_false, if_false]; rw [numGetD, ← hdg]; simp
          simp (maxSteps := 2000000) only [↓vP0, vQ0, vT0, simprocAttr, rDecC_rens]
          refine exit_of [] (.tup [numV (numGet base d).none (numGet base d).n, .int .i64 (numGet base d).err]) (rDecL (numGet base d).d) ⟨rfl, rfl⟩ ?_ ?_ ?_ ?_ ?_
          all_goals simp [ren, rens, sg, sig, okIn, okIns, exK, leK, leF, leV, matK, objM, renO, roSame, lh, born, AObj.born, AObj.live, injOk, kindOf, rens_ints, okIns_ints, List.range, List.range.loop, mrg, mset, rDecL, rDecC_rens, rDecC_okIns, rDecC_inj, hng, hO3.2.2.2]
        case inl =>
          rw [if_neg (by omega)] at hdg
          have hgb : 0 ≤ E.got (base + dctx c i) ∧ E.got (base + dctx c i) ≤ 1 := by rcases q2 with h | h <;> omega
          simp only [rDecL, q1]
          simp (maxSteps := 2000000) only [↓vP0, vQ0, vT0, simprocAttr, rDecC_rens]
          simp (disch := omega) only [wr64, wru64, wru8, tdv, tmd, fdv]
          refine ⟨(i + 1, 2 * v + E.got (base + dctx c i), E.after (base + dctx c i)), ⟨by omega, hO3, by rw [← hdg]; congr 1; omega, by simp only; omega, by simp only; rw [hp2]; omega⟩, by simp only; omega, ?_⟩
          simp only [Int.natCast_add, Int.cast_ofNat_Int]
          refine ⟨by simp [leF, leV], ⟨_, by first | rfl | exact (List.append_nil _).symm⟩, by simp, by simp [okIns, okIn], by simp [AObj.born, okIns, okIn, AObj.cells, okIns_ints, rDecC_okIns]⟩
    · have hi' : i = c := by omega
      have hdg2 : digD base c c 0 1 D = (0, v, E) := by rw [← hdg, hi', Nat.sub_self]; rfl
      have hv2 : v < 2097152 := by
        have := Nat.pow_le_pow_right (n := 2) (by decide) (show i + 1 ≤ 21 by omega)
        have : (2 : Nat) ^ 21 = 2097152 := by decide
        omega
      have hng : numGet base d = numGetV base v E := by rw [hng, numGetL, hln]; simp only [ne_eq, not_true_eq_false, if_false]; rw [numGetD, hdg2]; simp
      clear hdg
      simp (maxSteps := 2000000) only [↓vP0, vQ0, vT0, simprocAttr, rDecC_rens]
      (with_reducible first | refine condK_dec (fun h => ?_) (fun h => ?_) | refine condK_beq (fun h => ?_) (fun h => ?_) | refine condK_bne (fun h => ?_) (fun h => ?_) | refine condK_intro (fun h => ?_) (fun h => ?_))
      · have hng : numGet base d = ⟨false, 0, 3, E⟩ := by rw [hng, numGetV, if_pos (by omega)]
        simp (maxSteps := 2000000) only [↓vP0, vQ0, vT0, simprocAttr, rDecC_rens]
        refine exit_of [] (.tup [numV (numGet base d).none (numGet base d).n, .int .i64 (numGet base d).err]) (rDecL (numGet base d).d) ⟨rfl, rfl⟩ ?_ ?_ ?_ ?_ ?_
        all_goals simp [ren, rens, sg, sig, okIn, okIns, exK, leK, leF, leV, matK, objM, renO, roSame, lh, born, AObj.born, AObj.live, injOk, kindOf, rens_ints, okIns_ints, List.range, List.range.loop, mrg, mset, rDecL, rDecC_rens, rDecC_okIns, rDecC_inj, hng, hO2.2.2.2]
      · simp (maxSteps := 2000000) only [↓vP0, vQ0, vT0, simprocAttr, rDecC_rens]
        (with_reducible first | refine condK_dec (fun h => ?_) (fun h => ?_) | refine condK_beq (fun h => ?_) (fun h => ?_) | refine condK_bne (fun h => ?_) (fun h => ?_) | refine condK_intro (fun h => ?_) (fun h => ?_))
        · have hng : numGet base d = ⟨false, 0, 0, E⟩ := by rw [hng, numGetV, if_neg (by omega), if_pos (by omega)]
          simp (maxSteps := 2000000) only [↓vP0, vQ0, vT0, simprocAttr, rDecC_rens]
          refine exit_of [] (.tup [numV (numGet base d).none (numGet base d).n, .int .i64 (numGet base d).err]) (rDecL (numGet base d).d) ⟨rfl, rfl⟩ ?_ ?_ ?_ ?_ ?_
          all_goals simp [ren, rens, sg, sig, okIn, okIns, exK, leK, leF, leV, matK, objM, renO, roSame, lh, born, AObj.born, AObj.live, injOk, kindOf, rens_ints, okIns_ints, List.range, List.range.loop, mrg, mset, rDecL, rDecC_rens, rDecC_okIns, rDecC_inj, hng, hO2.2.2.2]
        · rw [numGetV, if_neg (by omega), if_neg (by omega)] at hng
          have hw3 : IntKind.i64.wrap ((base : Int) + 22) = ((base + 22 : Nat) : Int) := by rw [wr64 _ (by omega) (by omega)]; omega
          have hO4 := hO2.after (c := base + 22) (by omega)
          simp (maxSteps := 2000000) only [↓vP0, vQ0, vT0, simprocAttr, rDecC_rens, hw3]
          refine callK_det (c_rGet E hO2.1 (base + 22) (by have := hO2.2.2.1; omega) (by rw [hO2.2.2.2]; exact hcl)) [0, 1, 2] ?_ ?_ ?_ rfl (by simp [rDecL]) ?_
          · simp [ren, rens, sg, sig, okIn, okIns, exK, leK, leF, leV, matK, objM, renO, roSame, lh, born, AObj.born, AObj.live, injOk, kindOf, rens_ints, okIns_ints, List.range, List.range.loop, mrg, mset]
          · simp [ren, rens, sg, sig, okIn, okIns, exK, leK, leF, leV, matK, objM, renO, roSame, lh, born, AObj.born, AObj.live, injOk, kindOf, rens_ints, okIns_ints, List.range, List.range.loop, mrg, mset, rDecL]
          · simp [ren, rens, sg, sig, okIn, okIns, exK, leK, leF, leV, matK, objM, renO, roSame, lh, born, AObj.born, AObj.live, injOk, kindOf, rens_ints, okIns_ints, List.range, List.range.loop, mrg, mset, rDecL, rDecC_rens, rDecC_okIns, rDecC_inj, hO2.2.2.2]
          rcases derr E (base + 22) with ⟨q1, q2 | q2⟩ | ⟨q1, q2⟩
          · rw [if_neg (by omega), q2] at hng
            simp only [rDecL, q1, q2]
            simp (maxSteps := 2000000) only [↓vP0, vQ0, vT0, simprocAttr, rDecC_rens]
            simp (disch := omega) only [wr64, wru64, wru8, tdv, tmd, fdv]
            refine exit_of [] (.tup [numV (numGet base d).none (numGet base d).n, .int .i64 (numGet base d).err]) (rDecL (numGet base d).d) ⟨rfl, rfl⟩ ?_ ?_ ?_ ?_ ?_
            all_goals simp [ren, rens, sg, sig, okIn, okIns, exK, leK, leF, leV, matK, objM, renO, roSame, lh, born, AObj.born, AObj.live, injOk, kindOf, rens_ints, okIns_ints, List.range, List.range.loop, mrg, mset, rDecL, rDecC_rens, rDecC_okIns, rDecC_inj, hng, hO4.2.2.2]
          · rw [if_neg (by omega), q2] at hng
            simp only [rDecL, q1, q2]
            simp (maxSteps := 2000000) only [↓vP0, vQ0, vT0, simprocAttr, rDecC_rens]
            simp (disch := omega) only [wr64, wru64, wru8, tdv, tmd, fdv]
            refine exit_of [] (.tup [numV (numGet base d).none (numGet base d).n, .int .i64 (numGet base d).err]) (rDecL (numGet base d).d) ⟨rfl, rfl⟩ ?_ ?_ ?_ ?_ ?_
            all_goals simp [ren, rens, sg, sig, okIn, okIns, exK, leK, leF, leV, matK, objM, renO, roSame, lh, born, AObj.born, AObj.live, injOk, kindOf, rens_ints, okIns_ints, List.range, List.range.loop, mrg, mset, rDecL, rDecC_rens, rDecC_okIns, rDecC_inj, hng, hO4.2.2.2]
          · rw [if_pos (by omega), q1] at hng
            simp only [rDecL, q1, q2]
            simp (maxSteps := 2000000) only [↓vP0, vQ0, vT0, simprocAttr, rDecC_rens]
            refine exit_of [] (.tup [numV (numGet base d).none (numGet base d).n, .int .i64 (numGet base d).err]) (rDecL (numGet base d).d) ⟨rfl, rfl⟩ ?_ ?_ ?_ ?_ ?_
            all_goals simp [ren, rens, sg, sig, okIn, okIns, exK, leK, leF, leV, matK, objM, renO, roSame, lh, born, AObj.born, AObj.live, injOk, kindOf, rens_ints, okIns_ints, List.range, List.range.loop, mrg, mset, rDecL, rDecC_rens, rDecC_okIns, rDecC_inj, hng, hO4.2.2.2]

end Go.Proofs.Ytbfefpkhalegmaa
