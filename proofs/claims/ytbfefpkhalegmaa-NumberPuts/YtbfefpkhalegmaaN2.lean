/- The contract of the reference's events. -/
import Derived.Test.YtbfefpkhalegmaaN1

set_option linter.unusedVariables false
set_option linter.unusedSimpArgs false
namespace Go.Proofs.Ytbfefpkhalegmaa
open Go
set_option maxHeartbeats 4000000
set_option maxRecDepth 20000

def digs (v k : Nat) : List Int := (List.range' 0 k).map fun i => dig v i
theorem digs_len (v k : Nat) : (digs v k).length = k := by simp [digs]
theorem digs_succ (v k : Nat) : digs v (k + 1) = digs v k ++ [dig v k] := by simp [digs, List.range'_1_concat]
theorem digs_get (v k i : Nat) (h : i < k) : (digs v k).getD i 0 = dig v i := by simp [digs, List.getD_eq_getElem?_getD, h]

theorem c_rEvents (none : Bool) (n : Int) (hn : NumOk none n) : LCall Try.prog 73 [numV none n] [] fun r L =>
    r = .slice 0 0 (numEv none n).length ∧ L = [.own (evF (numEv none n)) 100] := by
  refine lcall_of_vc tyok Try.func73 rfl (by rfl) Try.results73 Try.ntmps73 ?_; intro C hD
  cases none with
  | true =>
    simp (maxSteps := 2000000) only [↓vP0, vQ0, vT0, simprocAttr]
    refine exit_of [1] (.slice 0 0 1) [.own (evF (numEv true n)) 100] ⟨rfl, rfl⟩ ?_ ?_ rfl ?_ ?_
    all_goals simp [ren, rens, sg, sig, okIn, okIns, exK, leK, leF, leV, matK, objM, renO, roSame, lh, born, AObj.born, AObj.live, injOk, kindOf, rens_ints, okIns_ints, List.range, List.range.loop, mrg, mset, numEv, evF, flat, ints]
  | false =>
    have hn' : -1048576 ≤ n ∧ n ≤ 1048576 := by simpa [NumOk] using hn
    have hc := log_bd hn
    have hne := numEv_eq n
    generalize hv : n.natAbs + 1 = v at hc hne
    have l1 := Nat.log2_self_le (n := v) (by omega)
    have l2 : v < 2 ^ (v.log2 + 1) := (Nat.log2_lt (by omega)).1 (by omega)
    generalize hcc : v.log2 = c at hc hne l1 l2
    simp (maxSteps := 2000000) only [↓vP0, vQ0, vT0, simprocAttr]
    (with_reducible first | refine condK_dec (fun h => ?_) (fun h => ?_) | refine condK_beq (fun h => ?_) (fun h => ?_) | refine condK_bne (fun h => ?_) (fun h => ?_) | refine condK_intro (fun h => ?_) (fun h => ?_))
    · have hm : IntKind.i64.wrap (IntKind.i64.wrap (0 - n) + 1) = ((v / 2 ^ 0 : Nat) : Int) := by
        rw [Nat.pow_zero, Nat.div_one]
        simp (disch := omega) only [wr64]
        omega
      simp (maxSteps := 2000000) only [↓vP0, vQ0, vT0, simprocAttr, hm]
      refine loopK_b tyok hD (α := Nat) (fun k => k ≤ c + 1) (fun k => c + 1 - k) (fun k => [.junk, .ptr 0 0, .junk, .slice 1 0 1, .int .i64 (v - 1), .int .i64 1, .slice 2 0 k, .int .i64 ((v / 2 ^ k : Nat) : Int), .junk, .junk, .junk, .junk, .junk, .junk, .junk, .junk, .junk, .junk, .junk, .junk, .junk, .junk, .junk, .junk, .junk, .junk, .junk, .junk, .junk, .junk, .junk, .junk, .junk, .junk, .junk, .junk, .junk, .junk, .junk, .junk, .junk, .junk, .junk, .junk, .junk, .junk, .junk, .junk, .junk, .junk, .junk, .junk, .junk, .junk, .junk, .junk, .junk, .junk, .junk, .junk, .junk, .junk, .junk, .junk, .junk, .junk, .junk, .junk, .junk, .junk, .junk, .junk, .junk, .junk, .junk, .junk, .junk, .junk, .junk, .junk, .junk, .junk, .junk, .junk, .junk, .junk, .junk, .junk, .junk])
        (fun k => [.own [.bool false, .int .i64 n] 28, .own (evF (evH 0)) 100, .own (ints .i64 (digs v k)) 3]) 0 (by omega) ⟨[(3, .fr 6 [])], [0, 1, 2], ?_⟩ ?_
      · simp (maxSteps := 2000000) only [↓vP0, vQ0, vT0, simprocAttr]
        simp only [leR]
        simp [ren, rens, sg, sig, okIn, okIns, exK, leK, leF, leV, matK, objM, renO, roSame, lh, born, AObj.born, AObj.live, injOk, kindOf, rens_ints, okIns_ints, List.range, List.range.loop, mrg, mset, leF, leV, leK, digs, evH, evF, flat, ints]
        all_goals ((try simp (disch := omega) only [wr64, wru64, wru8, tdv, tmd, fdv]); omega)
      intro k hk
      have hdl := digs_len v k
      simp (maxSteps := 2000000) only [↓vP0, vQ0, vT0, simprocAttr]
      (with_reducible first | refine condK_dec (fun h => ?_) (fun h => ?_) | refine condK_beq (fun h => ?_) (fun h => ?_) | refine condK_bne (fun h => ?_) (fun h => ?_) | refine condK_intro (fun h => ?_) (fun h => ?_))
      · have hk' : k < c + 1 := by
          rcases Nat.lt_or_eq_of_le hk with h1 | rfl
          · exact h1
          · rw [Nat.div_eq_of_lt l2] at h; omega
        have hq : v / 2 ^ k ≤ v := Nat.div_le_self _ _
        have hq2 : v / 2 ^ (k + 1) = v / 2 ^ k / 2 := by rw [Nat.pow_succ, Nat.div_div_eq_div_mul]
        simp (maxSteps := 2000000) only [↓vP0, vQ0, vT0, simprocAttr]
        refine chk_intro (by rw [hdl]; omega) ?_
        simp (maxSteps := 2000000) only [↓vP0, vQ0, vT0, simprocAttr]
        have hd : (((v / 2 ^ k : Nat) : Int)).tmod 2 = dig v k := by rw [tmd _ _ (by omega)]; unfold dig; omega
        have hd2 : IntKind.i64.wrap ((((v / 2 ^ k : Nat) : Int)).tdiv 2) = ((v / 2 ^ (k + 1) : Nat) : Int) := by
          rw [tdv _ _ (by omega), wr64 _ (by omega) (by omega), hq2]; omega
        rw [hd, hd2]
        refine ⟨k + 1, by omega, by omega, [], [0, 1, 4], ?_⟩
        simp (maxSteps := 2000000) only [↓vP0, vQ0, vT0, simprocAttr]
        rw [← digs_succ]
        simp only [leR]
        simp [ren, rens, sg, sig, okIn, okIns, exK, leK, leF, leV, matK, objM, renO, roSame, lh, born, AObj.born, AObj.live, injOk, kindOf, rens_ints, okIns_ints, List.range, List.range.loop, mrg, mset, leF, leV, leK, evF_rens, evF_okIns]
      · have hk' : k = c + 1 := by
          rcases Nat.lt_or_eq_of_le hk with h1 | h1
          · have : 2 ^ k ≤ v := Nat.le_trans (Nat.pow_le_pow_right (by decide) (by omega)) l1
            have := Nat.div_pos this (Nat.two_pow_pos k)
            omega
          · exact h1
        subst hk'
        clear h
        have hw1 : IntKind.i64.wrap ((c : Int) + 1 - 1) = c := by rw [wr64 _ (by omega) (by omega)]; omega
        simp (maxSteps := 2000000) only [↓vP0, vQ0, vT0, simprocAttr, Int.natCast_add, hw1]
        refine loopK_ren tyok hD (α := Nat) (fun i => i ≤ c) (fun i => c - i) (fun i => [.junk, .ptr 0 0, .junk, .slice 1 0 (i + 1), .int .i64 (v - 1), .int .i64 1, .slice 2 0 (c + 1), .junk, .int .i64 c, .int .i64 i, .junk, .junk, .junk, .junk, .junk, .junk, .junk, .junk, .junk, .junk, .junk, .junk, .junk, .junk, .junk, .junk, .junk, .junk, .junk, .junk, .junk, .junk, .junk, .junk, .junk, .junk, .junk, .junk, .junk, .junk, .junk, .junk, .junk, .junk, .junk, .junk, .junk, .junk, .junk, .junk, .junk, .junk, .junk, .junk, .junk, .junk, .junk, .junk, .junk, .junk, .junk, .junk, .junk, .junk, .junk, .junk, .junk, .junk, .junk, .junk, .junk, .junk, .junk, .junk, .junk, .junk, .junk, .junk, .junk, .junk, .junk, .junk, .junk, .junk, .junk, .junk, .junk, .junk, .junk])
          (fun i => [.own [.bool false, .int .i64 n] 28, .own (evF (evH i)) 100, .own (ints .i64 (digs v (c + 1))) 3]) 0 (by omega) ⟨[0, 1, 2], ?_⟩ ?_
        · simp only [leR]
          simp [ren, rens, sg, sig, okIn, okIns, exK, leK, leF, leV, matK, objM, renO, roSame, lh, born, AObj.born, AObj.live, injOk, kindOf, rens_ints, okIns_ints, List.range, List.range.loop, mrg, mset, leF, leV, leK, evF_rens, evF_okIns]
        intro i hi
        have hlen : (evF (evH i)).length = (i + 1) * 2 := by rw [evF_len, evH_len]
        simp (maxSteps := 2000000) only [↓vP0, vQ0, vT0, simprocAttr]
        (with_reducible first | refine condK_dec (fun h => ?_) (fun h => ?_) | refine condK_beq (fun h => ?_) (fun h => ?_) | refine condK_bne (fun h => ?_) (fun h => ?_) | refine condK_intro (fun h => ?_) (fun h => ?_))
        · have hi' : i < c := by omega
          simp (maxSteps := 2000000) only [↓vP0, vQ0, vT0, simprocAttr]
          refine chk_intro (by rw [hlen]; omega) ?_
          simp (maxSteps := 2000000) only [↓vP0, vQ0, vT0, simprocAttr]
          simp (disch := omega) only [wr64, wru64, wru8, tdv, tmd, fdv]
          rw [evF_snoc _ (1 + i) _ _ (by omega), ← evH_succ]
          refine ⟨i + 1, by omega, by omega, [0, 4, 2], ?_⟩
          simp only [leR, Int.natCast_add, Int.cast_ofNat_Int]
          simp [ren, rens, sg, sig, okIn, okIns, exK, leK, leF, leV, matK, objM, renO, roSame, lh, born, AObj.born, AObj.live, injOk, kindOf, rens_ints, okIns_ints, List.range, List.range.loop, mrg, mset, leF, leV, leK, evF_rens, evF_okIns]
        have : i = c := by omega
        subst this
        clear h
        simp (maxSteps := 2000000) only [↓vP0, vQ0, vT0, simprocAttr]
        have hml : (evM i).length ≤ i + 2 := by simp only [evM, List.length_append, evH_len]; split <;> simp <;> omega
        (with_reducible first | refine condK_dec (fun h => ?_) (fun h => ?_) | refine condK_beq (fun h => ?_) (fun h => ?_) | refine condK_bne (fun h => ?_) (fun h => ?_) | refine condK_intro (fun h => ?_) (fun h => ?_))
        · simp (maxSteps := 2000000) only [↓vP0, vQ0, vT0, simprocAttr]
          refine chk_intro (by rw [hlen]; omega) ?_
          simp (maxSteps := 2000000) only [↓vP0, vQ0, vT0, simprocAttr]
          simp (disch := omega) only [wr64, wru64, wru8, tdv, tmd, fdv]
          rw [evF_snoc _ (1 + i) _ _ (by omega)]
          have hx : evH i ++ [(1 + i, 0)] = evM i := by rw [evM, if_pos (by omega)]
          have hy : i + 1 + 1 = (evM i).length := by simp only [evM, List.length_append, evH_len]; rw [if_pos (by omega)]; rfl
          rw [hx, hy]
          refine loopK_ren tyok hD (α := Nat) (fun j => j ≤ i) (fun j => i - j) (fun j => [.junk, .ptr 0 0, .junk, .slice 1 0 ((evM i).length + j), .int .i64 (v - 1), .int .i64 1, .slice 2 0 (i + 1), .junk, .int .i64 i, .junk, .int .i64 j, .junk, .junk, .junk, .junk, .junk, .junk, .junk, .junk, .junk, .junk, .junk, .junk, .junk, .junk, .junk, .junk, .junk, .junk, .junk, .junk, .junk, .junk, .junk, .junk, .junk, .junk, .junk, .junk, .junk, .junk, .junk, .junk, .junk, .junk, .junk, .junk, .junk, .junk, .junk, .junk, .junk, .junk, .junk, .junk, .junk, .junk, .junk, .junk, .junk, .junk, .junk, .junk, .junk, .junk, .junk, .junk, .junk, .junk, .junk, .junk, .junk, .junk, .junk, .junk, .junk, .junk, .junk, .junk, .junk, .junk, .junk, .junk, .junk, .junk, .junk, .junk, .junk, .junk])
            (fun j => [.own [.bool false, .int .i64 n] 28, .own (evF (evT (evM i) v i j)) 100, .own (ints .i64 (digs v (i + 1))) 3]) 0 (by omega) ⟨[0, 4, 2], ?_⟩ ?_
          · simp only [leR, evT, List.range'_zero, List.map_nil, List.append_nil]
            simp [ren, rens, sg, sig, okIn, okIns, exK, leK, leF, leV, matK, objM, renO, roSame, lh, born, AObj.born, AObj.live, injOk, kindOf, rens_ints, okIns_ints, List.range, List.range.loop, mrg, mset, leF, leV, leK, evF_rens, evF_okIns]
            all_goals omega
          intro j hj
          have hlen2 : (evF (evT (evM i) v i j)).length = ((evM i).length + j) * 2 := by rw [evF_len, evT_len]
          simp (maxSteps := 2000000) only [↓vP0, vQ0, vT0, simprocAttr]
          (with_reducible first | refine condK_dec (fun h => ?_) (fun h => ?_) | refine condK_beq (fun h => ?_) (fun h => ?_) | refine condK_bne (fun h => ?_) (fun h => ?_) | refine condK_intro (fun h => ?_) (fun h => ?_))
          · have hj' : j < i := by omega
            have hdl2 := digs_len v (i + 1)
            have hgt := ints_get .i64 (digs v (i + 1)) (i - 1 - j) (by rw [hdl2]; omega)
            rw [digs_get v (i + 1) (i - 1 - j) (by omega)] at hgt
            have hti : IntKind.i64.wrap (IntKind.i64.wrap ((i : Int) - 1) - (j : Int)) = ((i - 1 - j : Nat) : Int) := by rw [wr64 (_ - 1) (by omega) (by omega), wr64 _ (by omega) (by omega)]; omega
            simp (maxSteps := 2000000) only [↓vP0, vQ0, vT0, simprocAttr]
            (try simp (disch := omega) only [wr64, wru64, wru8, tdv, tmd, fdv])
            (with_reducible first | refine condK_dec (fun h => ?_) (fun h => ?_) | refine condK_beq (fun h => ?_) (fun h => ?_) | refine condK_bne (fun h => ?_) (fun h => ?_) | refine condK_intro (fun h => ?_) (fun h => ?_))
            · simp (maxSteps := 2000000) only [↓vP0, vQ0, vT0, simprocAttr, hti, hgt]
              refine chk_intro (by omega) ?_
              simp (maxSteps := 2000000) only [↓vP0, vQ0, vT0, simprocAttr, hti, hgt]
              refine chk_intro (by rw [hlen2]; omega) ?_
              simp (maxSteps := 2000000) only [↓vP0, vQ0, vT0, simprocAttr]
              simp (disch := omega) only [wr64, wru64, wru8, tdv, tmd, fdv]
              have hd0 : dctx i j = if j = 0 then 23 + i else min (43 + j) 47 := rfl
              rw [evF_snoc _ (dctx i j)]
              rotate_left
              · rw [hd0]; first | (rw [if_pos (by omega)]; omega) | (rw [if_neg (by omega)]; omega)
              rw [← evT_succ]
              refine ⟨j + 1, by omega, by omega, [0, 4, 2], ?_⟩
              simp only [leR]
              simp [ren, rens, sg, sig, okIn, okIns, exK, leK, leF, leV, matK, objM, renO, roSame, lh, born, AObj.born, AObj.live, injOk, kindOf, rens_ints, okIns_ints, List.range, List.range.loop, mrg, mset, leF, leV, leK, evF_rens, evF_okIns, Nat.add_assoc]
            · simp (maxSteps := 2000000) only [↓vP0, vQ0, vT0, simprocAttr, hti, hgt]
              refine chk_intro (by omega) ?_
              simp (maxSteps := 2000000) only [↓vP0, vQ0, vT0, simprocAttr, hti, hgt]
              refine chk_intro (by rw [hlen2]; omega) ?_
              simp (maxSteps := 2000000) only [↓vP0, vQ0, vT0, simprocAttr]
              simp (disch := omega) only [wr64, wru64, wru8, tdv, tmd, fdv]
              have hd0 : dctx i j = if j = 0 then 23 + i else min (43 + j) 47 := rfl
              rw [evF_snoc _ (dctx i j)]
              rotate_left
              · rw [hd0]; first | (rw [if_pos (by omega)]; omega) | (rw [if_neg (by omega)]; omega)
              rw [← evT_succ]
              refine ⟨j + 1, by omega, by omega, [0, 4, 2], ?_⟩
              simp only [leR]
              simp [ren, rens, sg, sig, okIn, okIns, exK, leK, leF, leV, matK, objM, renO, roSame, lh, born, AObj.born, AObj.live, injOk, kindOf, rens_ints, okIns_ints, List.range, List.range.loop, mrg, mset, leF, leV, leK, evF_rens, evF_okIns, Nat.add_assoc]
          · have hj' : j = i := by omega
            subst hj'
            simp (maxSteps := 2000000) only [↓vP0, vQ0, vT0, simprocAttr]
            (with_reducible first | refine condK_dec (fun h => ?_) (fun h => ?_) | refine condK_beq (fun h => ?_) (fun h => ?_) | refine condK_bne (fun h => ?_) (fun h => ?_) | refine condK_intro (fun h => ?_) (fun h => ?_))
            · have hnz := h
              have hn0 : ¬ n = 0 := by omega
              rw [if_neg hn0] at hne
              simp (maxSteps := 2000000) only [↓vP0, vQ0, vT0, simprocAttr]
              refine chk_intro (by rw [hlen2]; omega) ?_
              simp (maxSteps := 2000000) only [↓vP0, vQ0, vT0, simprocAttr]
              have hsg : (if n < 0 then (1 : Int) else 0) = 1 := by first | exact if_pos (by omega) | exact if_neg (by omega)
              rw [hsg] at hne
              rw [evF_snoc _ 22 22 _ rfl, ← hne]
              refine exit_of [4] (.slice 0 0 (numEv false n).length) [.own (evF (numEv false n)) 100] ⟨rfl, rfl⟩ ?_ ?_ rfl ?_ ?_
              all_goals simp [ren, rens, sg, sig, okIn, okIns, exK, leK, leF, leV, matK, objM, renO, roSame, lh, born, AObj.born, AObj.live, injOk, kindOf, rens_ints, okIns_ints, List.range, List.range.loop, mrg, mset, hne, evT_len, evF_rens, evF_okIns]
            · have hn0 : n = 0 := by omega
              subst hn0
              rw [if_pos rfl, List.append_nil] at hne
              simp (maxSteps := 2000000) only [↓vP0, vQ0, vT0, simprocAttr]
              refine exit_of [1] (.slice 0 0 (numEv false 0).length) [.own (evF (numEv false 0)) 100] ⟨rfl, rfl⟩ ?_ ?_ rfl ?_ ?_
              all_goals simp [ren, rens, sg, sig, okIn, okIns, exK, leK, leF, leV, matK, objM, renO, roSame, lh, born, AObj.born, AObj.live, injOk, kindOf, rens_ints, okIns_ints, List.range, List.range.loop, mrg, mset, hne, evT_len, evF_rens, evF_okIns]
        · simp (maxSteps := 2000000) only [↓vP0, vQ0, vT0, simprocAttr]
          have hx : evH i = evM i := by rw [evM, if_neg (by omega), List.append_nil]
          have hy : i + 1 = (evM i).length := by simp only [evM, List.length_append, evH_len]; rw [if_neg (by omega)]; rfl
          rw [hx]
          refine loopK_ren tyok hD (α := Nat) (fun j => j ≤ i) (fun j => i - j) (fun j => [.junk, .ptr 0 0, .junk, .slice 1 0 ((evM i).length + j), .int .i64 (v - 1), .int .i64 1, .slice 2 0 (i + 1), .junk, .int .i64 i, .junk, .int .i64 j, .junk, .junk, .junk, .junk, .junk, .junk, .junk, .junk, .junk, .junk, .junk, .junk, .junk, .junk, .junk, .junk, .junk, .junk, .junk, .junk, .junk, .junk, .junk, .junk, .junk, .junk, .junk, .junk, .junk, .junk, .junk, .junk, .junk, .junk, .junk, .junk, .junk, .junk, .junk, .junk, .junk, .junk, .junk, .junk, .junk, .junk, .junk, .junk, .junk, .junk, .junk, .junk, .junk, .junk, .junk, .junk, .junk, .junk, .junk, .junk, .junk, .junk, .junk, .junk, .junk, .junk, .junk, .junk, .junk, .junk, .junk, .junk, .junk, .junk, .junk, .junk, .junk, .junk])
            (fun j => [.own [.bool false, .int .i64 n] 28, .own (evF (evT (evM i) v i j)) 100, .own (ints .i64 (digs v (i + 1))) 3]) 0 (by omega) ⟨[0, 1, 2], ?_⟩ ?_
          · simp only [leR, evT, List.range'_zero, List.map_nil, List.append_nil]
            simp [ren, rens, sg, sig, okIn, okIns, exK, leK, leF, leV, matK, objM, renO, roSame, lh, born, AObj.born, AObj.live, injOk, kindOf, rens_ints, okIns_ints, List.range, List.range.loop, mrg, mset, leF, leV, leK, evF_rens, evF_okIns]
            all_goals omega
          intro j hj
          have hlen2 : (evF (evT (evM i) v i j)).length = ((evM i).length + j) * 2 := by rw [evF_len, evT_len]
          simp (maxSteps := 2000000) only [↓vP0, vQ0, vT0, simprocAttr]
          (with_reducible first | refine condK_dec (fun h => ?_) (fun h => ?_) | refine condK_beq (fun h => ?_) (fun h => ?_) | refine condK_bne (fun h => ?_) (fun h => ?_) | refine condK_intro (fun h => ?_) (fun h => ?_))
          · have hj' : j < i := by omega
            have hdl2 := digs_len v (i + 1)
            have hgt := ints_get .i64 (digs v (i + 1)) (i - 1 - j) (by rw [hdl2]; omega)
            rw [digs_get v (i + 1) (i - 1 - j) (by omega)] at hgt
            have hti : IntKind.i64.wrap (IntKind.i64.wrap ((i : Int) - 1) - (j : Int)) = ((i - 1 - j : Nat) : Int) := by rw [wr64 (_ - 1) (by omega) (by omega), wr64 _ (by omega) (by omega)]; omega
            simp (maxSteps := 2000000) only [↓vP0, vQ0, vT0, simprocAttr]
            (try simp (disch := omega) only [wr64, wru64, wru8, tdv, tmd, fdv])
            (with_reducible first | refine condK_dec (fun h => ?_) (fun h => ?_) | refine condK_beq (fun h => ?_) (fun h => ?_) | refine condK_bne (fun h => ?_) (fun h => ?_) | refine condK_intro (fun h => ?_) (fun h => ?_))
            · simp (maxSteps := 2000000) only [↓vP0, vQ0, vT0, simprocAttr, hti, hgt]
              refine chk_intro (by omega) ?_
              simp (maxSteps := 2000000) only [↓vP0, vQ0, vT0, simprocAttr, hti, hgt]
              refine chk_intro (by rw [hlen2]; omega) ?_
              simp (maxSteps := 2000000) only [↓vP0, vQ0, vT0, simprocAttr]
              simp (disch := omega) only [wr64, wru64, wru8, tdv, tmd, fdv]
              have hd0 : dctx i j = if j = 0 then 23 + i else min (43 + j) 47 := rfl
              rw [evF_snoc _ (dctx i j)]
              rotate_left
              · rw [hd0]; first | (rw [if_pos (by omega)]; omega) | (rw [if_neg (by omega)]; omega)
              rw [← evT_succ]
              refine ⟨j + 1, by omega, by omega, [0, 4, 2], ?_⟩
              simp only [leR]
              simp [ren, rens, sg, sig, okIn, okIns, exK, leK, leF, leV, matK, objM, renO, roSame, lh, born, AObj.born, AObj.live, injOk, kindOf, rens_ints, okIns_ints, List.range, List.range.loop, mrg, mset, leF, leV, leK, evF_rens, evF_okIns, Nat.add_assoc]
            · simp (maxSteps := 2000000) only [↓vP0, vQ0, vT0, simprocAttr, hti, hgt]
              refine chk_intro (by omega) ?_
              simp (maxSteps := 2000000) only [↓vP0, vQ0, vT0, simprocAttr, hti, hgt]
              refine chk_intro (by rw [hlen2]; omega) ?_
              simp (maxSteps := 2000000) only [↓vP0, vQ0, vT0, simprocAttr]
              simp (disch := omega) only [wr64, wru64, wru8, tdv, tmd, fdv]
              have hd0 : dctx i j = if j = 0 then 23 + i else min (43 + j) 47 := rfl
              rw [evF_snoc _ (dctx i j)]
              rotate_left
              · rw [hd0]; first | (rw [if_pos (by omega)]; omega) | (rw [if_neg (by omega)]; omega)
              rw [← evT_succ]
              refine ⟨j + 1, by omega, by omega, [0, 4, 2], ?_⟩
              simp only [leR]
              simp [ren, rens, sg, sig, okIn, okIns, exK, leK, leF, leV, matK, objM, renO, roSame, lh, born, AObj.born, AObj.live, injOk, kindOf, rens_ints, okIns_ints, List.range, List.range.loop, mrg, mset, leF, leV, leK, evF_rens, evF_okIns, Nat.add_assoc]
          · have hj' : j = i := by omega
            subst hj'
            simp (maxSteps := 2000000) only [↓vP0, vQ0, vT0, simprocAttr]
            (with_reducible first | refine condK_dec (fun h => ?_) (fun h => ?_) | refine condK_beq (fun h => ?_) (fun h => ?_) | refine condK_bne (fun h => ?_) (fun h => ?_) | refine condK_intro (fun h => ?_) (fun h => ?_))
            · have hnz := h
              have hn0 : ¬ n = 0 := by omega
              rw [if_neg hn0] at hne
              simp (maxSteps := 2000000) only [↓vP0, vQ0, vT0, simprocAttr]
              refine chk_intro (by rw [hlen2]; omega) ?_
              simp (maxSteps := 2000000) only [↓vP0, vQ0, vT0, simprocAttr]
              have hsg : (if n < 0 then (1 : Int) else 0) = 1 := by first | exact if_pos (by omega) | exact if_neg (by omega)
              rw [hsg] at hne
              rw [evF_snoc _ 22 22 _ rfl, ← hne]
              refine exit_of [4] (.slice 0 0 (numEv false n).length) [.own (evF (numEv false n)) 100] ⟨rfl, rfl⟩ ?_ ?_ rfl ?_ ?_
              all_goals simp [ren, rens, sg, sig, okIn, okIns, exK, leK, leF, leV, matK, objM, renO, roSame, lh, born, AObj.born, AObj.live, injOk, kindOf, rens_ints, okIns_ints, List.range, List.range.loop, mrg, mset, hne, evT_len, evF_rens, evF_okIns]
            · have hn0 : n = 0 := by omega
              subst hn0
              rw [if_pos rfl, List.append_nil] at hne
              simp (maxSteps := 2000000) only [↓vP0, vQ0, vT0, simprocAttr]
              refine exit_of [1] (.slice 0 0 (numEv false 0).length) [.own (evF (numEv false 0)) 100] ⟨rfl, rfl⟩ ?_ ?_ rfl ?_ ?_
              all_goals simp [ren, rens, sg, sig, okIn, okIns, exK, leK, leF, leV, matK, objM, renO, roSame, lh, born, AObj.born, AObj.live, injOk, kindOf, rens_ints, okIns_ints, List.range, List.range.loop, mrg, mset, hne, evT_len, evF_rens, evF_okIns]
    · have hm : IntKind.i64.wrap (n + 1) = ((v / 2 ^ 0 : Nat) : Int) := by
        rw [Nat.pow_zero, Nat.div_one]
        simp (disch := omega) only [wr64]
        omega
      simp (maxSteps := 2000000) only [↓vP0, vQ0, vT0, simprocAttr, hm]
      refine loopK_b tyok hD (α := Nat) (fun k => k ≤ c + 1) (fun k => c + 1 - k) (fun k => [.junk, .ptr 0 0, .junk, .slice 1 0 1, .int .i64 (v - 1), .int .i64 0, .slice 2 0 k, .int .i64 ((v / 2 ^ k : Nat) : Int), .junk, .junk, .junk, .junk, .junk, .junk, .junk, .junk, .junk, .junk, .junk, .junk, .junk, .junk, .junk, .junk, .junk, .junk, .junk, .junk, .junk, .junk, .junk, .junk, .junk, .junk, .junk, .junk, .junk, .junk, .junk, .junk, .junk, .junk, .junk, .junk, .junk, .junk, .junk, .junk, .junk, .junk, .junk, .junk, .junk, .junk, .junk, .junk, .junk, .junk, .junk, .junk, .junk, .junk, .junk, .junk, .junk, .junk, .junk, .junk, .junk, .junk, .junk, .junk, .junk, .junk, .junk, .junk, .junk, .junk, .junk, .junk, .junk, .junk, .junk, .junk, .junk, .junk, .junk, .junk, .junk])
        (fun k => [.own [.bool false, .int .i64 n] 28, .own (evF (evH 0)) 100, .own (ints .i64 (digs v k)) 3]) 0 (by omega) ⟨[(3, .fr 6 [])], [0, 1, 2], ?_⟩ ?_
      · simp (maxSteps := 2000000) only [↓vP0, vQ0, vT0, simprocAttr]
        simp only [leR]
        simp [ren, rens, sg, sig, okIn, okIns, exK, leK, leF, leV, matK, objM, renO, roSame, lh, born, AObj.born, AObj.live, injOk, kindOf, rens_ints, okIns_ints, List.range, List.range.loop, mrg, mset, leF, leV, leK, digs, evH, evF, flat, ints]
        all_goals ((try simp (disch := omega) only [wr64, wru64, wru8, tdv, tmd, fdv]); omega)
      intro k hk
      have hdl := digs_len v k
      simp (maxSteps := 2000000) only [↓vP0, vQ0, vT0, simprocAttr]
      (with_reducible first | refine condK_dec (fun h => ?_) (fun h => ?_) | refine condK_beq (fun h => ?_) (fun h => ?_) | refine condK_bne (fun h => ?_) (fun h => ?_) | refine condK_intro (fun h => ?_) (fun h => ?_))
      · have hk' : k < c + 1 := by
          rcases Nat.lt_or_eq_of_le hk with h1 | rfl
          · exact h1
          · rw [Nat.div_eq_of_lt l2] at h; omega
        have hq : v / 2 ^ k ≤ v := Nat.div_le_self _ _
        have hq2 : v / 2 ^ (k + 1) = v / 2 ^ k / 2 := by rw [Nat.pow_succ, Nat.div_div_eq_div_mul]
        simp (maxSteps := 2000000) only [↓vP0, vQ0, vT0, simprocAttr]
        refine chk_intro (by rw [hdl]; omega) ?_
        simp (maxSteps := 2000000) only [↓vP0, vQ0, vT0, simprocAttr]
        have hd : (((v / 2 ^ k : Nat) : Int)).tmod 2 = dig v k := by rw [tmd _ _ (by omega)]; unfold dig; omega
        have hd2 : IntKind.i64.wrap ((((v / 2 ^ k : Nat) : Int)).tdiv 2) = ((v / 2 ^ (k + 1) : Nat) : Int) := by
          rw [tdv _ _ (by omega), wr64 _ (by omega) (by omega), hq2]; omega
        rw [hd, hd2]
        refine ⟨k + 1, by omega, by omega, [], [0, 1, 4], ?_⟩
        simp (maxSteps := 2000000) only [↓vP0, vQ0, vT0, simprocAttr]
        rw [← digs_succ]
        simp only [leR]
        simp [ren, rens, sg, sig, okIn, okIns, exK, leK, leF, leV, matK, objM, renO, roSame, lh, born, AObj.born, AObj.live, injOk, kindOf, rens_ints, okIns_ints, List.range, List.range.loop, mrg, mset, leF, leV, leK, evF_rens, evF_okIns]
      · have hk' : k = c + 1 := by
          rcases Nat.lt_or_eq_of_le hk with h1 | h1
          · have : 2 ^ k ≤ v := Nat.le_trans (Nat.pow_le_pow_right (by decide) (by omega)) l1
            have := Nat.div_pos this (Nat.two_pow_pos k)
            omega
          · exact h1
        subst hk'
        clear h
        have hw1 : IntKind.i64.wrap ((c : Int) + 1 - 1) = c := by rw [wr64 _ (by omega) (by omega)]; omega
        simp (maxSteps := 2000000) only [↓vP0, vQ0, vT0, simprocAttr, Int.natCast_add, hw1]
        refine loopK_ren tyok hD (α := Nat) (fun i => i ≤ c) (fun i => c - i) (fun i => [.junk, .ptr 0 0, .junk, .slice 1 0 (i + 1), .int .i64 (v - 1), .int .i64 0, .slice 2 0 (c + 1), .junk, .int .i64 c, .int .i64 i, .junk, .junk, .junk, .junk, .junk, .junk, .junk, .junk, .junk, .junk, .junk, .junk, .junk, .junk, .junk, .junk, .junk, .junk, .junk, .junk, .junk, .junk, .junk, .junk, .junk, .junk, .junk, .junk, .junk, .junk, .junk, .junk, .junk, .junk, .junk, .junk, .junk, .junk, .junk, .junk, .junk, .junk, .junk, .junk, .junk, .junk, .junk, .junk, .junk, .junk, .junk, .junk, .junk, .junk, .junk, .junk, .junk, .junk, .junk, .junk, .junk, .junk, .junk, .junk, .junk, .junk, .junk, .junk, .junk, .junk, .junk, .junk, .junk, .junk, .junk, .junk, .junk, .junk, .junk])
          (fun i => [.own [.bool false, .int .i64 n] 28, .own (evF (evH i)) 100, .own (ints .i64 (digs v (c + 1))) 3]) 0 (by omega) ⟨[0, 1, 2], ?_⟩ ?_
        · simp only [leR]
          simp [ren, rens, sg, sig, okIn, okIns, exK, leK, leF, leV, matK, objM, renO, roSame, lh, born, AObj.born, AObj.live, injOk, kindOf, rens_ints, okIns_ints, List.range, List.range.loop, mrg, mset, leF, leV, leK, evF_rens, evF_okIns]
        intro i hi
        have hlen : (evF (evH i)).length = (i + 1) * 2 := by rw [evF_len, evH_len]
        simp (maxSteps := 2000000) only [↓vP0, vQ0, vT0, simprocAttr]
        (with_reducible first | refine condK_dec (fun h => ?_) (fun h => ?_) | refine condK_beq (fun h => ?_) (fun h => ?_) | refine condK_bne (fun h => ?_) (fun h => ?_) | refine condK_intro (fun h => ?_) (fun h => ?_))
        · have hi' : i < c := by omega
          simp (maxSteps := 2000000) only [↓vP0, vQ0, vT0, simprocAttr]
          refine chk_intro (by rw [hlen]; omega) ?_
          simp (maxSteps := 2000000) only [↓vP0, vQ0, vT0, simprocAttr]
          simp (disch := omega) only [wr64, wru64, wru8, tdv, tmd, fdv]
          rw [evF_snoc _ (1 + i) _ _ (by omega), ← evH_succ]
          refine ⟨i + 1, by omega, by omega, [0, 4, 2], ?_⟩
          simp only [leR, Int.natCast_add, Int.cast_ofNat_Int]
          simp [ren, rens, sg, sig, okIn, okIns, exK, leK, leF, leV, matK, objM, renO, roSame, lh, born, AObj.born, AObj.live, injOk, kindOf, rens_ints, okIns_ints, List.range, List.range.loop, mrg, mset, leF, leV, leK, evF_rens, evF_okIns]
        have : i = c := by omega
        subst this
        clear h
        simp (maxSteps := 2000000) only [↓vP0, vQ0, vT0, simprocAttr]
        have hml : (evM i).length ≤ i + 2 := by simp only [evM, List.length_append, evH_len]; split <;> simp <;> omega
        (with_reducible first | refine condK_dec (fun h => ?_) (fun h => ?_) | refine condK_beq (fun h => ?_) (fun h => ?_) | refine condK_bne (fun h => ?_) (fun h => ?_) | refine condK_intro (fun h => ?_) (fun h => ?_))
        · simp (maxSteps := 2000000) only [↓vP0, vQ0, vT0, simprocAttr]
          refine chk_intro (by rw [hlen]; omega) ?_
          simp (maxSteps := 2000000) only [↓vP0, vQ0, vT0, simprocAttr]
          simp (disch := omega) only [wr64, wru64, wru8, tdv, tmd, fdv]
          rw [evF_snoc _ (1 + i) _ _ (by omega)]
          have hx : evH i ++ [(1 + i, 0)] = evM i := by rw [evM, if_pos (by omega)]
          have hy : i + 1 + 1 = (evM i).length := by simp only [evM, List.length_append, evH_len]; rw [if_pos (by omega)]; rfl
          rw [hx, hy]
          refine loopK_ren tyok hD (α := Nat) (fun j => j ≤ i) (fun j => i - j) (fun j => [.junk, .ptr 0 0, .junk, .slice 1 0 ((evM i).length + j), .int .i64 (v - 1), .int .i64 0, .slice 2 0 (i + 1), .junk, .int .i64 i, .junk, .int .i64 j, .junk, .junk, .junk, .junk, .junk, .junk, .junk, .junk, .junk, .junk, .junk, .junk, .junk, .junk, .junk, .junk, .junk, .junk, .junk, .junk, .junk, .junk, .junk, .junk, .junk, .junk, .junk, .junk, .junk, .junk, .junk, .junk, .junk, .junk, .junk, .junk, .junk, .junk, .junk, .junk, .junk, .junk, .junk, .junk, .junk, .junk, .junk, .junk, .junk, .junk, .junk, .junk, .junk, .junk, .junk, .junk, .junk, .junk, .junk, .junk, .junk, .junk, .junk, .junk, .junk, .junk, .junk, .junk, .junk, .junk, .junk, .junk, .junk, .junk, .junk, .junk, .junk, .junk])
            (fun j => [.own [.bool false, .int .i64 n] 28, .own (evF (evT (evM i) v i j)) 100, .own (ints .i64 (digs v (i + 1))) 3]) 0 (by omega) ⟨[0, 4, 2], ?_⟩ ?_
          · simp only [leR, evT, List.range'_zero, List.map_nil, List.append_nil]
            simp [ren, rens, sg, sig, okIn, okIns, exK, leK, leF, leV, matK, objM, renO, roSame, lh, born, AObj.born, AObj.live, injOk, kindOf, rens_ints, okIns_ints, List.range, List.range.loop, mrg, mset, leF, leV, leK, evF_rens, evF_okIns]
            all_goals omega
          intro j hj
          have hlen2 : (evF (evT (evM i) v i j)).length = ((evM i).length + j) * 2 := by rw [evF_len, evT_len]
          simp (maxSteps := 2000000) only [↓vP0, vQ0, vT0, simprocAttr]
          (with_reducible first | refine condK_dec (fun h => ?_) (fun h => ?_) | refine condK_beq (fun h => ?_) (fun h => ?_) | refine condK_bne (fun h => ?_) (fun h => ?_) | refine condK_intro (fun h => ?_) (fun h => ?_))
          · have hj' : j < i := by omega
            have hdl2 := digs_len v (i + 1)
            have hgt := ints_get .i64 (digs v (i + 1)) (i - 1 - j) (by rw [hdl2]; omega)
            rw [digs_get v (i + 1) (i - 1 - j) (by omega)] at hgt
            have hti : IntKind.i64.wrap (IntKind.i64.wrap ((i : Int) - 1) - (j : Int)) = ((i - 1 - j : Nat) : Int) := by rw [wr64 (_ - 1) (by omega) (by omega), wr64 _ (by omega) (by omega)]; omega
            simp (maxSteps := 2000000) only [↓vP0, vQ0, vT0, simprocAttr]
            (try simp (disch := omega) only [wr64, wru64, wru8, tdv, tmd, fdv])
            (with_reducible first | refine condK_dec (fun h => ?_) (fun h => ?_) | refine condK_beq (fun h => ?_) (fun h => ?_) | refine condK_bne (fun h => ?_) (fun h => ?_) | refine condK_intro (fun h => ?_) (fun h => ?_))
            · simp (maxSteps := 2000000) only [↓vP0, vQ0, vT0, simprocAttr, hti, hgt]
              refine chk_intro (by omega) ?_
              simp (maxSteps := 2000000) only [↓vP0, vQ0, vT0, simprocAttr, hti, hgt]
              refine chk_intro (by rw [hlen2]; omega) ?_
              simp (maxSteps := 2000000) only [↓vP0, vQ0, vT0, simprocAttr]
              simp (disch := omega) only [wr64, wru64, wru8, tdv, tmd, fdv]
              have hd0 : dctx i j = if j = 0 then 23 + i else min (43 + j) 47 := rfl
              rw [evF_snoc _ (dctx i j)]
              rotate_left
              · rw [hd0]; first | (rw [if_pos (by omega)]; omega) | (rw [if_neg (by omega)]; omega)
              rw [← evT_succ]
              refine ⟨j + 1, by omega, by omega, [0, 4, 2], ?_⟩
              simp only [leR]
              simp [ren, rens, sg, sig, okIn, okIns, exK, leK, leF, leV, matK, objM, renO, roSame, lh, born, AObj.born, AObj.live, injOk, kindOf, rens_ints, okIns_ints, List.range, List.range.loop, mrg, mset, leF, leV, leK, evF_rens, evF_okIns, Nat.add_assoc]
            · simp (maxSteps := 2000000) only [↓vP0, vQ0, vT0, simprocAttr, hti, hgt]
              refine chk_intro (by omega) ?_
              simp (maxSteps := 2000000) only [↓vP0, vQ0, vT0, simprocAttr, hti, hgt]
              refine chk_intro (by rw [hlen2]; omega) ?_
              simp (maxSteps := 2000000) only [↓vP0, vQ0, vT0, simprocAttr]
              simp (disch := omega) only [wr64, wru64, wru8, tdv, tmd, fdv]
              have hd0 : dctx i j = if j = 0 then 23 + i else min (43 + j) 47 := rfl
              rw [evF_snoc _ (dctx i j)]
              rotate_left
              · rw [hd0]; first | (rw [if_pos (by omega)]; omega) | (rw [if_neg (by omega)]; omega)
              rw [← evT_succ]
              refine ⟨j + 1, by omega, by omega, [0, 4, 2], ?_⟩
              simp only [leR]
              simp [ren, rens, sg, sig, okIn, okIns, exK, leK, leF, leV, matK, objM, renO, roSame, lh, born, AObj.born, AObj.live, injOk, kindOf, rens_ints, okIns_ints, List.range, List.range.loop, mrg, mset, leF, leV, leK, evF_rens, evF_okIns, Nat.add_assoc]
          · have hj' : j = i := by omega
            subst hj'
            simp (maxSteps := 2000000) only [↓vP0, vQ0, vT0, simprocAttr]
            (with_reducible first | refine condK_dec (fun h => ?_) (fun h => ?_) | refine condK_beq (fun h => ?_) (fun h => ?_) | refine condK_bne (fun h => ?_) (fun h => ?_) | refine condK_intro (fun h => ?_) (fun h => ?_))
            · have hnz := h
              have hn0 : ¬ n = 0 := by omega
              rw [if_neg hn0] at hne
              simp (maxSteps := 2000000) only [↓vP0, vQ0, vT0, simprocAttr]
              refine chk_intro (by rw [hlen2]; omega) ?_
              simp (maxSteps := 2000000) only [↓vP0, vQ0, vT0, simprocAttr]
              have hsg : (if n < 0 then (1 : Int) else 0) = 0 := by first | exact if_pos (by omega) | exact if_neg (by omega)
              rw [hsg] at hne
              rw [evF_snoc _ 22 22 _ rfl, ← hne]
              refine exit_of [4] (.slice 0 0 (numEv false n).length) [.own (evF (numEv false n)) 100] ⟨rfl, rfl⟩ ?_ ?_ rfl ?_ ?_
              all_goals simp [ren, rens, sg, sig, okIn, okIns, exK, leK, leF, leV, matK, objM, renO, roSame, lh, born, AObj.born, AObj.live, injOk, kindOf, rens_ints, okIns_ints, List.range, List.range.loop, mrg, mset, hne, evT_len, evF_rens, evF_okIns]
            · have hn0 : n = 0 := by omega
              subst hn0
              rw [if_pos rfl, List.append_nil] at hne
              simp (maxSteps := 2000000) only [↓vP0, vQ0, vT0, simprocAttr]
              refine exit_of [1] (.slice 0 0 (numEv false 0).length) [.own (evF (numEv false 0)) 100] ⟨rfl, rfl⟩ ?_ ?_ rfl ?_ ?_
              all_goals simp [ren, rens, sg, sig, okIn, okIns, exK, leK, leF, leV, matK, objM, renO, roSame, lh, born, AObj.born, AObj.live, injOk, kindOf, rens_ints, okIns_ints, List.range, List.range.loop, mrg, mset, hne, evT_len, evF_rens, evF_okIns]
        · simp (maxSteps := 2000000) only [↓vP0, vQ0, vT0, simprocAttr]
          have hx : evH i = evM i := by rw [evM, if_neg (by omega), List.append_nil]
          have hy : i + 1 = (evM i).length := by simp only [evM, List.length_append, evH_len]; rw [if_neg (by omega)]; rfl
          rw [hx]
          refine loopK_ren tyok hD (α := Nat) (fun j => j ≤ i) (fun j => i - j) (fun j => [.junk, .ptr 0 0, .junk, .slice 1 0 ((evM i).length + j), .int .i64 (v - 1), .int .i64 0, .slice 2 0 (i + 1), .junk, .int .i64 i, .junk, .int .i64 j, .junk, .junk, .junk, .junk, .junk, .junk, .junk, .junk, .junk, .junk, .junk, .junk, .junk, .junk, .junk, .junk, .junk, .junk, .junk, .junk, .junk, .junk, .junk, .junk, .junk, .junk, .junk, .junk, .junk, .junk, .junk, .junk, .junk, .junk, .junk, .junk, .junk, .junk, .junk, .junk, .junk, .junk, .junk, .junk, .junk, .junk, .junk, .junk, .junk, .junk, .junk, .junk, .junk, .junk, .junk, .junk, .junk, .junk, .junk, .junk, .junk, .junk, .junk, .junk, .junk, .junk, .junk, .junk, .junk, .junk, .junk, .junk, .junk, .junk, .junk, .junk, .junk, .junk])
            (fun j => [.own [.bool false, .int .i64 n] 28, .own (evF (evT (evM i) v i j)) 100, .own (ints .i64 (digs v (i + 1))) 3]) 0 (by omega) ⟨[0, 1, 2], ?_⟩ ?_
          · simp only [leR, evT, List.range'_zero, List.map_nil, List.append_nil]
            simp [ren, rens, sg, sig, okIn, okIns, exK, leK, leF, leV, matK, objM, renO, roSame, lh, born, AObj.born, AObj.live, injOk, kindOf, rens_ints, okIns_ints, List.range, List.range.loop, mrg, mset, leF, leV, leK, evF_rens, evF_okIns]
            all_goals omega
          intro j hj
          have hlen2 : (evF (evT (evM i) v i j)).length = ((evM i).length + j) * 2 := by rw [evF_len, evT_len]
          simp (maxSteps := 2000000) only [↓vP0, vQ0, vT0, simprocAttr]
          (with_reducible first | refine condK_dec (fun h => ?_) (fun h => ?_) | refine condK_beq (fun h => ?_) (fun h => ?_) | refine condK_bne (fun h => ?_) (fun h => ?_) | refine condK_intro (fun h => ?_) (fun h => ?_))
          · have hj' : j < i := by omega
            have hdl2 := digs_len v (i + 1)
            have hgt := ints_get .i64 (digs v (i + 1)) (i - 1 - j) (by rw [hdl2]; omega)
            rw [digs_get v (i + 1) (i - 1 - j) (by omega)] at hgt
            have hti : IntKind.i64.wrap (IntKind.i64.wrap ((i : Int) - 1) - (j : Int)) = ((i - 1 - j : Nat) : Int) := by rw [wr64 (_ - 1) (by omega) (by omega), wr64 _ (by omega) (by omega)]; omega
            simp (maxSteps := 2000000) only [↓vP0, vQ0, vT0, simprocAttr]
            (try simp (disch := omega) only [wr64, wru64, wru8, tdv, tmd, fdv])
            (with_reducible first | refine condK_dec (fun h => ?_) (fun h => ?_) | refine condK_beq (fun h => ?_) (fun h => ?_) | refine condK_bne (fun h => ?_) (fun h => ?_) | refine condK_intro (fun h => ?_) (fun h => ?_))
            · simp (maxSteps := 2000000) only [↓vP0, vQ0, vT0, simprocAttr, hti, hgt]
              refine chk_intro (by omega) ?_
              simp (maxSteps := 2000000) only [↓vP0, vQ0, vT0, simprocAttr, hti, hgt]
              refine chk_intro (by rw [hlen2]; omega) ?_
              simp (maxSteps := 2000000) only [↓vP0, vQ0, vT0, simprocAttr]
              simp (disch := omega) only [wr64, wru64, wru8, tdv, tmd, fdv]
              have hd0 : dctx i j = if j = 0 then 23 + i else min (43 + j) 47 := rfl
              rw [evF_snoc _ (dctx i j)]
              rotate_left
              · rw [hd0]; first | (rw [if_pos (by omega)]; omega) | (rw [if_neg (by omega)]; omega)
              rw [← evT_succ]
              refine ⟨j + 1, by omega, by omega, [0, 4, 2], ?_⟩
              simp only [leR]
              simp [ren, rens, sg, sig, okIn, okIns, exK, leK, leF, leV, matK, objM, renO, roSame, lh, born, AObj.born, AObj.live, injOk, kindOf, rens_ints, okIns_ints, List.range, List.range.loop, mrg, mset, leF, leV, leK, evF_rens, evF_okIns, Nat.add_assoc]
            · simp (maxSteps := 2000000) only [↓vP0, vQ0, vT0, simprocAttr, hti, hgt]
              refine chk_intro (by omega) ?_
              simp (maxSteps := 2000000) only [↓vP0, vQ0, vT0, simprocAttr, hti, hgt]
              refine chk_intro (by rw [hlen2]; omega) ?_
              simp (maxSteps := 2000000) only [↓vP0, vQ0, vT0, simprocAttr]
              simp (disch := omega) only [wr64, wru64, wru8, tdv, tmd, fdv]
              have hd0 : dctx i j = if j = 0 then 23 + i else min (43 + j) 47 := rfl
              rw [evF_snoc _ (dctx i j)]
              rotate_left
              · rw [hd0]; first | (rw [if_pos (by omega)]; omega) | (rw [if_neg (by omega)]; omega)
              rw [← evT_succ]
              refine ⟨j + 1, by omega, by omega, [0, 4, 2], ?_⟩
              simp only [leR]
              simp [ren, rens, sg, sig, okIn, okIns, exK, leK, leF, leV, matK, objM, renO, roSame, lh, born, AObj.born, AObj.live, injOk, kindOf, rens_ints, okIns_ints, List.range, List.range.loop, mrg, mset, leF, leV, leK, evF_rens, evF_okIns, Nat.add_assoc]
          · have hj' : j = i := by omega
            subst hj'
            simp (maxSteps := 2000000) only [↓vP0, vQ0, vT0, simprocAttr]
            (with_reducible first | refine condK_dec (fun h => ?_) (fun h => ?_) | refine condK_beq (fun h => ?_) (fun h => ?_) | refine condK_bne (fun h => ?_) (fun h => ?_) | refine condK_intro (fun h => ?_) (fun h => ?_))
            · have hnz := h
              have hn0 : ¬ n = 0 := by omega
              rw [if_neg hn0] at hne
              simp (maxSteps := 2000000) only [↓vP0, vQ0, vT0, simprocAttr]
              refine chk_intro (by rw [hlen2]; omega) ?_
              simp (maxSteps := 2000000) only [↓vP0, vQ0, vT0, simprocAttr]
              have hsg : (if n < 0 then (1 : Int) else 0) = 0 := by first | exact if_pos (by omega) | exact if_neg (by omega)
              rw [hsg] at hne
              rw [evF_snoc _ 22 22 _ rfl, ← hne]
              refine exit_of [4] (.slice 0 0 (numEv false n).length) [.own (evF (numEv false n)) 100] ⟨rfl, rfl⟩ ?_ ?_ rfl ?_ ?_
              all_goals simp [ren, rens, sg, sig, okIn, okIns, exK, leK, leF, leV, matK, objM, renO, roSame, lh, born, AObj.born, AObj.live, injOk, kindOf, rens_ints, okIns_ints, List.range, List.range.loop, mrg, mset, hne, evT_len, evF_rens, evF_okIns]
            · have hn0 : n = 0 := by omega
              subst hn0
              rw [if_pos rfl, List.append_nil] at hne
              simp (maxSteps := 2000000) only [↓vP0, vQ0, vT0, simprocAttr]
              refine exit_of [1] (.slice 0 0 (numEv false 0).length) [.own (evF (numEv false 0)) 100] ⟨rfl, rfl⟩ ?_ ?_ rfl ?_ ?_
              all_goals simp [ren, rens, sg, sig, okIn, okIns, exK, leK, leF, leV, matK, objM, renO, roSame, lh, born, AObj.born, AObj.live, injOk, kindOf, rens_ints, okIns_ints, List.range, List.range.loop, mrg, mset, hne, evT_len, evF_rens, evF_okIns]
end Go.Proofs.Ytbfefpkhalegmaa
