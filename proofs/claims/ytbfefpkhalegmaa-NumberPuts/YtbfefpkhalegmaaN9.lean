/- The law NumberPuts: what it computes, and that it is true. -/
import Derived.Test.YtbfefpkhalegmaaN8
import Derived.KernelRfl
import Derived.Deep.Slices

set_option linter.unusedVariables false
set_option linter.unusedSimpArgs false
namespace Go.Proofs.Ytbfefpkhalegmaa
open Go
set_option maxHeartbeats 4000000
set_option maxRecDepth 20000

theorem c_NumberPuts (kd states : Int) (l : List Deed) (hl : l.length ≤ 9223372036854775807) (hbd : ∀ d ∈ l, I6 d.1) :
    LCall Try.prog 11 [.int .i64 kd, .int .i64 states, .slice 0 0 l.length] [.ro (deedF l) 87] fun r L =>
      r = .bool true ∧ L = [.ro (deedF l) 87] := by
  have hkeep : keepL 1 [AObj.ro (deedF l) 87] [AObj.ro (deedF l) 87] := ⟨⟨rfl, by rw [deedF_okIns]; trivial⟩, trivial⟩
  refine lcall_of_vcB tyok Try.func11 rfl (by rfl) Try.results11 Try.ntmps11 ?_; intro C hD
  by_cases s1 : 1500 < states
  · simp (maxSteps := 2000000) only [↓vP0, vQ0, vT0, simprocAttr, decide_eq_true s1]
    refine callK_pure (c_Sane) rfl rfl ?_
    simp (maxSteps := 2000000) only [↓vP0, vQ0, vT0, simprocAttr]
    exact exitB_P (exit_keep (L1 := [.ro (deedF l) 87]) ⟨rfl, rfl⟩ trivial hkeep)
  by_cases s2 : 60 < (l.length : Int)
  · simp (maxSteps := 2000000) only [↓vP0, vQ0, vT0, simprocAttr, decide_eq_false s1, decide_eq_true s2]
    refine callK_pure (c_Sane) rfl rfl ?_
    simp (maxSteps := 2000000) only [↓vP0, vQ0, vT0, simprocAttr]
    exact exitB_P (exit_keep (L1 := [.ro (deedF l) 87]) ⟨rfl, rfl⟩ trivial hkeep)
  simp (maxSteps := 2000000) only [↓vP0, vQ0, vT0, simprocAttr, decide_eq_false s1, decide_eq_false s2]
  by_cases hk : KdOk kd
  case neg =>
    refine callK_pure (c_pNewBad kd hk states) rfl rfl ?_
    simp (maxSteps := 2000000) only [↓vP0, vQ0, vT0, simprocAttr]
    refine callK_pure (c_Sane) rfl rfl ?_
    simp (maxSteps := 2000000) only [↓vP0, vQ0, vT0, simprocAttr]
    exact exitB_P (exit_keep (L1 := [.ro (deedF l) 87]) ⟨rfl, rfl⟩ trivial hkeep)
  by_cases s0 : states < 0
  case pos =>
    refine callK_pure (c_pNewNeg kd hk states s0) rfl rfl ?_
    simp (maxSteps := 2000000) only [↓vP0, vQ0, vT0, simprocAttr]
    refine callK_pure (c_Sane) rfl rfl ?_
    simp (maxSteps := 2000000) only [↓vP0, vQ0, vT0, simprocAttr]
    exact exitB_P (exit_keep (L1 := [.ro (deedF l) 87]) ⟨rfl, rfl⟩ trivial hkeep)
  obtain ⟨n, rfl⟩ : ∃ n : Nat, states = (n : Int) := ⟨_, (Int.toNat_of_nonneg (by omega)).symm⟩
  have hz := zeros_ok hk (n := n) (by omega)
  have hN := encNew_ok hz
  have hst0 : (encNew kd (zeros n)).st.length = n := by simp [encNew, zeros]
  have hout0 : (encNew kd (zeros n)).out.length = 0 := by simp [encNew]
  refine callK_det (c_pNew kd hk n (by omega)) [] ?_ ?_ ?_ rfl (by simp) ?_
  · simp [ren, rens, sg, sig, okIn, okIns, exK, leK, leF, leV, matK, objM, renO, roSame, lh, born, AObj.born, AObj.live, injOk, kindOf, rens_ints, okIns_ints, List.range, List.range.loop, mrg, mset]
  · simp [ren, rens, sg, sig, okIn, okIns, exK, leK, leF, leV, matK, objM, renO, roSame, lh, born, AObj.born, AObj.live, injOk, kindOf, rens_ints, okIns_ints, List.range, List.range.loop, mrg, mset]
  · simp [ren, rens, sg, sig, okIn, okIns, exK, leK, leF, leV, matK, objM, renO, roSame, lh, born, AObj.born, AObj.live, injOk, kindOf, rens_ints, okIns_ints, List.range, List.range.loop, mrg, mset]
  simp (maxSteps := 2000000) only [↓vP0, vQ0, vT0, simprocAttr, zeros_len]
  refine callK_det (c_rNew kd hk n (by omega)) [] ?_ ?_ ?_ rfl (by simp) ?_
  · simp [ren, rens, sg, sig, okIn, okIns, exK, leK, leF, leV, matK, objM, renO, roSame, lh, born, AObj.born, AObj.live, injOk, kindOf, rens_ints, okIns_ints, List.range, List.range.loop, mrg, mset]
  · simp [ren, rens, sg, sig, okIn, okIns, exK, leK, leF, leV, matK, objM, renO, roSame, lh, born, AObj.born, AObj.live, injOk, kindOf, rens_ints, okIns_ints, List.range, List.range.loop, mrg, mset]
  · simp [ren, rens, sg, sig, okIn, okIns, exK, leK, leF, leV, matK, objM, renO, roSame, lh, born, AObj.born, AObj.live, injOk, kindOf, rens_ints, okIns_ints, List.range, List.range.loop, mrg, mset]
  simp (maxSteps := 2000000) only [↓vP0, vQ0, vT0, simprocAttr, zeros_len]
  refine callK_det (c_pNewEncoder kd (zeros n) hz) [1] ?_ ?_ ?_ rfl (by simp [zeros_len]) ?_
  · simp [ren, rens, sg, sig, okIn, okIns, exK, leK, leF, leV, matK, objM, renO, roSame, lh, born, AObj.born, AObj.live, injOk, kindOf, rens_ints, okIns_ints, List.range, List.range.loop, mrg, mset, zeros_len]
  · simp [ren, rens, sg, sig, okIn, okIns, exK, leK, leF, leV, matK, objM, renO, roSame, lh, born, AObj.born, AObj.live, injOk, kindOf, rens_ints, okIns_ints, List.range, List.range.loop, mrg, mset, zeros_len]
  · simp [ren, rens, sg, sig, okIn, okIns, exK, leK, leF, leV, matK, objM, renO, roSame, lh, born, AObj.born, AObj.live, injOk, kindOf, rens_ints, okIns_ints, List.range, List.range.loop, mrg, mset, zeros_len]
  simp (maxSteps := 2000000) only [↓vP0, vQ0, vT0, simprocAttr, pEncC_rens]
  refine callK_det (c_rNewEncoder kd (zeros n) hz) [3] ?_ ?_ ?_ rfl (by simp [zeros_len]) ?_
  · simp [ren, rens, sg, sig, okIn, okIns, exK, leK, leF, leV, matK, objM, renO, roSame, lh, born, AObj.born, AObj.live, injOk, kindOf, rens_ints, okIns_ints, List.range, List.range.loop, mrg, mset, zeros_len]
  · simp [ren, rens, sg, sig, okIn, okIns, exK, leK, leF, leV, matK, objM, renO, roSame, lh, born, AObj.born, AObj.live, injOk, kindOf, rens_ints, okIns_ints, List.range, List.range.loop, mrg, mset, zeros_len]
  · simp [ren, rens, sg, sig, okIn, okIns, exK, leK, leF, leV, matK, objM, renO, roSame, lh, born, AObj.born, AObj.live, injOk, kindOf, rens_ints, okIns_ints, List.range, List.range.loop, mrg, mset, zeros_len]
  simp (maxSteps := 2000000) only [↓vP0, vQ0, vT0, simprocAttr, rEncC_rens]
  have facts : ∀ i, EvsOk n (dAll n (l.take i)) ∧ (encAll (encNew kd (zeros n)) (dAll n (l.take i))).Ok ∧ (encAll (encNew kd (zeros n)) (dAll n (l.take i))).kd = kd ∧ (encAll (encNew kd (zeros n)) (dAll n (l.take i))).st.length = n ∧ (encAll (encNew kd (zeros n)) (dAll n (l.take i))).out.length ≤ 12000 ∧ (kept n (l.take i)).length ≤ 60 := by
    intro i
    obtain ⟨a, b⟩ := dAll_ok hN (l.take i)
    rw [hst0] at a b
    obtain ⟨d1, d2, d3, d4⟩ := encAll_ok _ _ hN (show EvsOk (encNew kd (zeros n)).st.length _ by rw [hst0]; exact a)
    have hlt := List.length_take_le' i l
    have hkl := kept_len n (l.take i)
    exact ⟨a, d1, d2, d3.trans hst0, by omega, by omega⟩
  refine loopK_b tyok hD (α := Nat) (fun i => i ≤ l.length) (fun i => l.length - i)
    (fun i => [.junk, .junk, .slice 0 0 l.length, .junk, .junk, .junk, .junk, .ptr 2 0, .junk, .junk, .junk, .ptr 3 0, .ptr 6 0, .junk, .slice 9 0 (kept n (l.take i)).length, .int .i64 i, .junk, .junk, .junk, .junk, .junk, .junk, .junk, .junk, .junk, .junk, .junk, .junk, .junk, .junk, .junk, .junk, .junk, .junk, .junk, .junk, .junk, .junk, .junk, .junk, .junk, .junk, .junk, .junk, .junk, .junk, .junk, .junk, .junk, .junk, .junk, .junk, .junk, .junk, .junk, .junk, .junk, .junk, .junk, .junk, .junk, .junk, .junk, .junk, .junk, .junk, .junk, .junk, .junk, .junk, .junk, .junk, .junk, .junk, .junk, .junk, .junk, .junk, .junk, .junk, .junk, .junk, .junk, .junk, .junk, .junk, .junk, .junk, .junk, .junk, .junk, .junk, .junk, .junk, .junk, .junk, .junk, .junk, .junk, .junk, .junk, .junk, .junk, .junk, .junk, .junk, .junk, .junk, .junk, .junk, .junk, .junk, .junk, .junk, .junk, .junk, .junk, .junk, .junk, .junk, .junk, .junk, .junk, .junk, .junk, .junk, .junk, .junk, .junk, .junk, .junk, .junk, .junk, .junk, .junk, .junk, .junk, .junk, .junk, .junk, .junk, .junk, .junk, .junk, .junk, .junk, .junk, .junk, .junk, .junk, .junk, .junk, .junk, .junk, .junk, .junk, .junk, .junk, .junk, .junk, .junk, .junk, .junk, .junk, .junk, .junk, .junk, .junk, .junk, .junk, .junk, .junk, .junk, .junk, .junk, .junk, .junk, .junk, .junk, .junk, .junk, .junk, .junk, .junk, .junk, .junk, .junk, .junk, .junk, .junk, .junk, .junk, .junk, .junk, .junk, .junk, .junk, .junk, .junk, .junk, .junk, .junk, .junk, .junk, .junk, .junk, .junk, .junk, .junk, .junk, .junk, .junk, .junk, .junk, .junk, .junk, .junk, .junk, .junk, .junk, .junk, .junk, .junk, .junk, .junk, .junk, .junk, .junk, .junk, .junk, .junk, .junk, .junk])
    (fun i => [.ro (deedF l) 87, .own (ints .i64 (zeros n)) 3, .own [.int .i64 kd, .slice 1 0 n] 60,
      .own (pEncC (encAll (encNew kd (zeros n)) (dAll n (l.take i))) 4 5) 126, .own (ints .i64 (encAll (encNew kd (zeros n)) (dAll n (l.take i))).st) 3, .own (ints .u8 (encAll (encNew kd (zeros n)) (dAll n (l.take i))).out) 5,
      .own (rEncC (encAll (encNew kd (zeros n)) (dAll n (l.take i))) 7 8) 132, .own (ints .i64 (encAll (encNew kd (zeros n)) (dAll n (l.take i))).st) 3, .own (ints .u8 (encAll (encNew kd (zeros n)) (dAll n (l.take i))).out) 5,
      .own (deedF (kept n (l.take i))) 87]) 0 (by omega) ⟨[(87, .fr 14 [])], [1, 2, 5, 6, 7, 8, 9, 10, 11], ?_⟩ ?_
  · simp (maxSteps := 2000000) only [↓vP0, vQ0, vT0, simprocAttr]
    have h0 : dAll n [] = [] := rfl
    have h1 : kept n [] = [] := rfl
    have h2 : deedF [] = [] := rfl
    have h3 : (encNew kd (zeros n)).st = zeros n := rfl
    have h4 : (encNew kd (zeros n)).out = [] := rfl
    simp only [leR, List.take_zero, h0, h1, h2, encAll]
    simp [ren, rens, sg, sig, okIn, okIns, exK, leK, leF, leV, matK, objM, renO, roSame, lh, born, AObj.born, AObj.live, injOk, kindOf, rens_ints, okIns_ints, List.range, List.range.loop, mrg, mset, leF, leV, leK, pEncC_rens, pEncC_okIns, pEncC_inj, rEncC_rens, rEncC_okIns, rEncC_inj, deedF_rens, deedF_okIns, h3, h4, ints_nil]
  intro i hi
  obtain ⟨ha, k1, k2, k3, k4, k5⟩ := facts i
  simp (maxSteps := 2000000) only [↓vP0, vQ0, vT0, simprocAttr]
  (with_reducible first | refine condK_dec (fun h => ?_) (fun h => ?_) | refine condK_beq (fun h => ?_) (fun h => ?_) | refine condK_bne (fun h => ?_) (fun h => ?_) | refine condK_intro (fun h => ?_) (fun h => ?_))
  · have hil : i < l.length := by omega
    have g := deedF_at l i hil
    have hlen := deedF_len l
    have hbd' := hbd (l.getD i deed0) (by
      have : l.getD i deed0 = l[i] := by simp [List.getD_eq_getElem?_getD, List.getElem?_eq_getElem hil]
      rw [this]; exact List.getElem_mem hil)
    have hEn : encAll (encNew kd (zeros n)) (dAll n (l.take (i + 1))) = encAll (encAll (encNew kd (zeros n)) (dAll n (l.take i))) (dEv n (l.getD i deed0)) := by rw [dAll_next n l hil, encAll_app]
    have hKn := kept_next n l hil
    generalize hE : encAll (encNew kd (zeros n)) (dAll n (l.take i)) = E at *
    generalize hP : kept n (l.take i) = P at *
    have hPl := deedF_len P
    generalize hd : l.getD i deed0 = d at *
    simp (maxSteps := 2000000) only [↓vP0, vQ0, vT0, simprocAttr]
    refine chk_intro (by omega) ?_
    cases his : d.2.2.2.1 with
    | true =>
      have hEd := encAll_dId (e := E) (d := d) his
      rw [k3, ← hEn] at hEd
      have hEr : dErr n d = ipErr d.2.1 d.2.2.1 d.1 n := by rw [dErr, if_pos his]
      have c1 := c_pPutId E k1 d.1 hbd' d.2.1 d.2.2.1 (by omega) (by omega)
      have c2 := c_rPutId E k1 d.1 hbd' d.2.1 d.2.2.1 (by omega) (by omega)
      rw [← hEd, k3, ← hEr] at c1 c2
      generalize hEN : encAll (encNew kd (zeros n)) (dAll n (l.take (i + 1))) = EN at *
      simp (maxSteps := 2000000) only [↓vP0, vQ0, vT0, simprocAttr, g.is, his]
      refine drawK_of tyok rfl (usL []) (fun i => .below 0) (by kernel_rfl) ?_
      simp (maxSteps := 2000000) only [↓vP0, vQ0, vT0, simprocAttr]
      refine chk_intro (by omega) ?_
      simp (maxSteps := 2000000) only [↓vP0, vQ0, vT0, simprocAttr, g.b]
      refine chk_intro (by omega) ?_
      simp (maxSteps := 2000000) only [↓vP0, vQ0, vT0, simprocAttr, g.kk]
      refine chk_intro (by omega) ?_
      simp (maxSteps := 2000000) only [↓vP0, vQ0, vT0, simprocAttr, g.i]
      refine callK_det (c1) [3, 4, 5] ?_ ?_ ?_ rfl (by simp [pEncL, pEncM, pEncC_rens, pEncC_okIns, pEncC_inj]) ?_
      · simp [ren, rens, sg, sig, okIn, okIns, exK, leK, leF, leV, matK, objM, renO, roSame, lh, born, AObj.born, AObj.live, injOk, kindOf, rens_ints, okIns_ints, List.range, List.range.loop, mrg, mset, pEncL, pEncM, pEncC_rens, pEncC_okIns, pEncC_inj]
      · simp [ren, rens, sg, sig, okIn, okIns, exK, leK, leF, leV, matK, objM, renO, roSame, lh, born, AObj.born, AObj.live, injOk, kindOf, rens_ints, okIns_ints, List.range, List.range.loop, mrg, mset, pEncL, pEncM, pEncC_rens, pEncC_okIns, pEncC_inj]
      · simp [ren, rens, sg, sig, okIn, okIns, exK, leK, leF, leV, matK, objM, renO, roSame, lh, born, AObj.born, AObj.live, injOk, kindOf, rens_ints, okIns_ints, List.range, List.range.loop, mrg, mset, pEncL, pEncM, pEncC_rens, pEncC_okIns, pEncC_inj]
      simp only [pEncL, pEncM]
      simp (maxSteps := 2000000) only [↓vP0, vQ0, vT0, simprocAttr, pEncC_rens]
      refine drawK_of tyok rfl (usL []) (fun i => .below 0) (by kernel_rfl) ?_
      simp (maxSteps := 2000000) only [↓vP0, vQ0, vT0, simprocAttr]
      refine chk_intro (by omega) ?_
      simp (maxSteps := 2000000) only [↓vP0, vQ0, vT0, simprocAttr, g.b]
      refine chk_intro (by omega) ?_
      simp (maxSteps := 2000000) only [↓vP0, vQ0, vT0, simprocAttr, g.kk]
      refine chk_intro (by omega) ?_
      simp (maxSteps := 2000000) only [↓vP0, vQ0, vT0, simprocAttr, g.i]
      refine callK_det (c2) [6, 7, 8] ?_ ?_ ?_ rfl (by simp [rEncL, rEncM, rEncC_rens, rEncC_okIns, rEncC_inj]) ?_
      · simp [ren, rens, sg, sig, okIn, okIns, exK, leK, leF, leV, matK, objM, renO, roSame, lh, born, AObj.born, AObj.live, injOk, kindOf, rens_ints, okIns_ints, List.range, List.range.loop, mrg, mset, rEncL, rEncM, rEncC_rens, rEncC_okIns, rEncC_inj]
      · simp [ren, rens, sg, sig, okIn, okIns, exK, leK, leF, leV, matK, objM, renO, roSame, lh, born, AObj.born, AObj.live, injOk, kindOf, rens_ints, okIns_ints, List.range, List.range.loop, mrg, mset, rEncL, rEncM, rEncC_rens, rEncC_okIns, rEncC_inj]
      · simp [ren, rens, sg, sig, okIn, okIns, exK, leK, leF, leV, matK, objM, renO, roSame, lh, born, AObj.born, AObj.live, injOk, kindOf, rens_ints, okIns_ints, List.range, List.range.loop, mrg, mset, rEncL, rEncM, rEncC_rens, rEncC_okIns, rEncC_inj]
      simp only [rEncL, rEncM]
      simp (maxSteps := 2000000) only [↓vP0, vQ0, vT0, simprocAttr, rEncC_rens]
      by_cases hz0 : dErr n d = 0
      · rw [if_pos hz0] at hKn
        rw [hz0]
        have gw := g.w
        simp only [deedC] at gw
        simp (maxSteps := 2000000) only [↓vP0, vQ0, vT0, simprocAttr]
        refine chk_intro (by omega) ?_
        simp (maxSteps := 2000000) only [↓vP0, vQ0, vT0, simprocAttr]
        refine chk_intro (by omega) ?_
        simp (maxSteps := 2000000) only [↓vP0, vQ0, vT0, simprocAttr, gw]
        refine chk_intro (by omega) ?_
        simp (maxSteps := 2000000) only [↓vP0, vQ0, vT0, simprocAttr]
        rw [deedF_snoc P d _ _ _ _ _ _ rfl]
        simp (disch := omega) only [wr64, wru64, wru8, tdv, tmd, fdv]
        refine ⟨i + 1, by omega, by omega, [], [1, 2, 3, 4, 10, 6, 7, 11, 13], ?_⟩
        simp (maxSteps := 2000000) only [↓vP0, vQ0, vT0, simprocAttr]
        simp only [leR, hEN, hKn, Int.natCast_add, Int.cast_ofNat_Int]
        simp [ren, rens, sg, sig, okIn, okIns, exK, leK, leF, leV, matK, objM, renO, roSame, lh, born, AObj.born, AObj.live, injOk, kindOf, rens_ints, okIns_ints, List.range, List.range.loop, mrg, mset, leF, leV, leK, pEncC_rens, pEncC_okIns, pEncC_inj, rEncC_rens, rEncC_okIns, rEncC_inj, deedF_rens, deedF_okIns]
      · rw [if_neg hz0] at hKn
        have hz1 : (dErr n d == 0) = false := by simpa using hz0
        simp (maxSteps := 2000000) only [↓vP0, vQ0, vT0, simprocAttr, hz1]
        simp (disch := omega) only [wr64, wru64, wru8, tdv, tmd, fdv]
        refine ⟨i + 1, by omega, by omega, [], [1, 2, 3, 4, 10, 6, 7, 11, 9], ?_⟩
        simp (maxSteps := 2000000) only [↓vP0, vQ0, vT0, simprocAttr]
        simp only [leR, hEN, hKn, Int.natCast_add, Int.cast_ofNat_Int]
        simp [ren, rens, sg, sig, okIn, okIns, exK, leK, leF, leV, matK, objM, renO, roSame, lh, born, AObj.born, AObj.live, injOk, kindOf, rens_ints, okIns_ints, List.range, List.range.loop, mrg, mset, leF, leV, leK, pEncC_rens, pEncC_okIns, pEncC_inj, rEncC_rens, rEncC_okIns, rEncC_inj, deedF_rens, deedF_okIns]
    | false =>
      have hEd := encAll_dNum (e := E) (d := d) his
      rw [k3, ← hEn] at hEd
      have hEr : dErr n d = npErr d.2.2.2.2.1 d.2.2.2.2.2 d.1 n := by rw [dErr, if_neg (by rw [his]; simp)]
      have c1 := c_pNPut E k1 d.1 hbd' d.2.2.2.2.1 d.2.2.2.2.2 (by omega) (by omega)
      have c2 := c_rNPut E k1 d.1 hbd' d.2.2.2.2.1 d.2.2.2.2.2 (by omega) (by omega)
      rw [← hEd, k3, ← hEr] at c1 c2
      generalize hEN : encAll (encNew kd (zeros n)) (dAll n (l.take (i + 1))) = EN at *
      simp (maxSteps := 2000000) only [↓vP0, vQ0, vT0, simprocAttr, g.is, his]
      refine drawK_of tyok rfl (usL []) (fun i => .below 0) (by kernel_rfl) ?_
      simp (maxSteps := 2000000) only [↓vP0, vQ0, vT0, simprocAttr]
      refine chk_intro (by omega) ?_
      simp (maxSteps := 2000000) only [↓vP0, vQ0, vT0, simprocAttr, g.b]
      refine chk_intro (by omega) ?_
      simp (maxSteps := 2000000) only [↓vP0, vQ0, vT0, simprocAttr]
      refine chk_intro (by omega) ?_
      simp (maxSteps := 2000000) only [↓vP0, vQ0, vT0, simprocAttr, g.n]
      refine callK_det (c1) [3, 4, 5] ?_ ?_ ?_ rfl (by simp [pEncL, pEncM, pEncC_rens, pEncC_okIns, pEncC_inj]) ?_
      · simp [ren, rens, sg, sig, okIn, okIns, exK, leK, leF, leV, matK, objM, renO, roSame, lh, born, AObj.born, AObj.live, injOk, kindOf, rens_ints, okIns_ints, List.range, List.range.loop, mrg, mset, pEncL, pEncM, pEncC_rens, pEncC_okIns, pEncC_inj]
      · simp [ren, rens, sg, sig, okIn, okIns, exK, leK, leF, leV, matK, objM, renO, roSame, lh, born, AObj.born, AObj.live, injOk, kindOf, rens_ints, okIns_ints, List.range, List.range.loop, mrg, mset, pEncL, pEncM, pEncC_rens, pEncC_okIns, pEncC_inj]
      · simp [ren, rens, sg, sig, okIn, okIns, exK, leK, leF, leV, matK, objM, renO, roSame, lh, born, AObj.born, AObj.live, injOk, kindOf, rens_ints, okIns_ints, List.range, List.range.loop, mrg, mset, pEncL, pEncM, pEncC_rens, pEncC_okIns, pEncC_inj]
      simp only [pEncL, pEncM]
      simp (maxSteps := 2000000) only [↓vP0, vQ0, vT0, simprocAttr, pEncC_rens]
      refine drawK_of tyok rfl (usL []) (fun i => .below 0) (by kernel_rfl) ?_
      simp (maxSteps := 2000000) only [↓vP0, vQ0, vT0, simprocAttr]
      refine chk_intro (by omega) ?_
      simp (maxSteps := 2000000) only [↓vP0, vQ0, vT0, simprocAttr, g.b]
      refine chk_intro (by omega) ?_
      simp (maxSteps := 2000000) only [↓vP0, vQ0, vT0, simprocAttr]
      refine chk_intro (by omega) ?_
      simp (maxSteps := 2000000) only [↓vP0, vQ0, vT0, simprocAttr, g.n]
      refine callK_det (c2) [6, 7, 8] ?_ ?_ ?_ rfl (by simp [rEncL, rEncM, rEncC_rens, rEncC_okIns, rEncC_inj]) ?_
      · simp [ren, rens, sg, sig, okIn, okIns, exK, leK, leF, leV, matK, objM, renO, roSame, lh, born, AObj.born, AObj.live, injOk, kindOf, rens_ints, okIns_ints, List.range, List.range.loop, mrg, mset, rEncL, rEncM, rEncC_rens, rEncC_okIns, rEncC_inj]
      · simp [ren, rens, sg, sig, okIn, okIns, exK, leK, leF, leV, matK, objM, renO, roSame, lh, born, AObj.born, AObj.live, injOk, kindOf, rens_ints, okIns_ints, List.range, List.range.loop, mrg, mset, rEncL, rEncM, rEncC_rens, rEncC_okIns, rEncC_inj]
      · simp [ren, rens, sg, sig, okIn, okIns, exK, leK, leF, leV, matK, objM, renO, roSame, lh, born, AObj.born, AObj.live, injOk, kindOf, rens_ints, okIns_ints, List.range, List.range.loop, mrg, mset, rEncL, rEncM, rEncC_rens, rEncC_okIns, rEncC_inj]
      simp only [rEncL, rEncM]
      simp (maxSteps := 2000000) only [↓vP0, vQ0, vT0, simprocAttr, rEncC_rens]
      by_cases hz0 : dErr n d = 0
      · rw [if_pos hz0] at hKn
        rw [hz0]
        have gw := g.w
        simp only [deedC] at gw
        simp (maxSteps := 2000000) only [↓vP0, vQ0, vT0, simprocAttr]
        refine chk_intro (by omega) ?_
        simp (maxSteps := 2000000) only [↓vP0, vQ0, vT0, simprocAttr]
        refine chk_intro (by omega) ?_
        simp (maxSteps := 2000000) only [↓vP0, vQ0, vT0, simprocAttr, gw]
        refine chk_intro (by omega) ?_
        simp (maxSteps := 2000000) only [↓vP0, vQ0, vT0, simprocAttr]
        rw [deedF_snoc P d _ _ _ _ _ _ rfl]
        simp (disch := omega) only [wr64, wru64, wru8, tdv, tmd, fdv]
        refine ⟨i + 1, by omega, by omega, [], [1, 2, 3, 4, 10, 6, 7, 11, 13], ?_⟩
        simp (maxSteps := 2000000) only [↓vP0, vQ0, vT0, simprocAttr]
        simp only [leR, hEN, hKn, Int.natCast_add, Int.cast_ofNat_Int]
        simp [ren, rens, sg, sig, okIn, okIns, exK, leK, leF, leV, matK, objM, renO, roSame, lh, born, AObj.born, AObj.live, injOk, kindOf, rens_ints, okIns_ints, List.range, List.range.loop, mrg, mset, leF, leV, leK, pEncC_rens, pEncC_okIns, pEncC_inj, rEncC_rens, rEncC_okIns, rEncC_inj, deedF_rens, deedF_okIns]
      · rw [if_neg hz0] at hKn
        have hz1 : (dErr n d == 0) = false := by simpa using hz0
        simp (maxSteps := 2000000) only [↓vP0, vQ0, vT0, simprocAttr, hz1]
        simp (disch := omega) only [wr64, wru64, wru8, tdv, tmd, fdv]
        refine ⟨i + 1, by omega, by omega, [], [1, 2, 3, 4, 10, 6, 7, 11, 9], ?_⟩
        simp (maxSteps := 2000000) only [↓vP0, vQ0, vT0, simprocAttr]
        simp only [leR, hEN, hKn, Int.natCast_add, Int.cast_ofNat_Int]
        simp [ren, rens, sg, sig, okIn, okIns, exK, leK, leF, leV, matK, objM, renO, roSame, lh, born, AObj.born, AObj.live, injOk, kindOf, rens_ints, okIns_ints, List.range, List.range.loop, mrg, mset, leF, leV, leK, pEncC_rens, pEncC_okIns, pEncC_inj, rEncC_rens, rEncC_okIns, rEncC_inj, deedF_rens, deedF_okIns]
  · have hil : i = l.length := by omega
    subst hil
    rw [List.take_length] at *
    generalize hE : encAll (encNew kd (zeros n)) (dAll n l) = E at *
    generalize hP : kept n l = P at *
    have hby := encAll_by (dAll n l) _ hN (by rw [hst0]; exact ha) (fun x hx => by simp [encNew] at hx)
    rw [hE] at hby
    have hcb := fin_by k1 hby
    have hfeed := feeds_new hz (l := dAll n l) (by rw [zeros_len]; exact ha)
    rw [hE, dAll_kept, hP] at hfeed
    have hcl : E.fin.length ≤ 2000000 := by
      rw [Enc.fin, List.length_append]
      have : ∀ hi n, (endL hi n).length ≤ 4 := fun hi n => by simp [endL]; omega
      have := this E.hi (endN E.lo E.hi)
      omega
    simp (maxSteps := 2000000) only [↓vP0, vQ0, vT0, simprocAttr]
    refine callK_det (c_pEnd E k1 (by omega)) [3, 4, 5] ?_ ?_ ?_ rfl (by simp [pEncR, pEncC_rens, pEncC_okIns, pEncC_inj]) ?_
    · simp [ren, rens, sg, sig, okIn, okIns, exK, leK, leF, leV, matK, objM, renO, roSame, lh, born, AObj.born, AObj.live, injOk, kindOf, rens_ints, okIns_ints, List.range, List.range.loop, mrg, mset, pEncR, pEncC_rens, pEncC_okIns, pEncC_inj]
    · simp [ren, rens, sg, sig, okIn, okIns, exK, leK, leF, leV, matK, objM, renO, roSame, lh, born, AObj.born, AObj.live, injOk, kindOf, rens_ints, okIns_ints, List.range, List.range.loop, mrg, mset, pEncR, pEncC_rens, pEncC_okIns, pEncC_inj]
    · simp [ren, rens, sg, sig, okIn, okIns, exK, leK, leF, leV, matK, objM, renO, roSame, lh, born, AObj.born, AObj.live, injOk, kindOf, rens_ints, okIns_ints, List.range, List.range.loop, mrg, mset, pEncR, pEncC_rens, pEncC_okIns, pEncC_inj]
    simp only [pEncR]
    simp (maxSteps := 2000000) only [↓vP0, vQ0, vT0, simprocAttr, pEncC_rens]
    refine drawK_of tyok rfl (usL [[], [3]]) (fun i => if i = 1 then .val (.int .i64 0) else if i = 4 then .val (.int .i64 0) else .fresh 11) (by kernel_rfl) ?_
    simp (maxSteps := 2000000) only [↓vP0, vQ0, vT0, simprocAttr]
    refine callK_det (c_rEnd E k1 (by omega)) [6, 7, 8] ?_ ?_ ?_ rfl (by simp [rEncR, rEncC_rens, rEncC_okIns, rEncC_inj]) ?_
    · simp [ren, rens, sg, sig, okIn, okIns, exK, leK, leF, leV, matK, objM, renO, roSame, lh, born, AObj.born, AObj.live, injOk, kindOf, rens_ints, okIns_ints, List.range, List.range.loop, mrg, mset, rEncR, rEncC_rens, rEncC_okIns, rEncC_inj]
    · simp [ren, rens, sg, sig, okIn, okIns, exK, leK, leF, leV, matK, objM, renO, roSame, lh, born, AObj.born, AObj.live, injOk, kindOf, rens_ints, okIns_ints, List.range, List.range.loop, mrg, mset, rEncR, rEncC_rens, rEncC_okIns, rEncC_inj]
    · simp [ren, rens, sg, sig, okIn, okIns, exK, leK, leF, leV, matK, objM, renO, roSame, lh, born, AObj.born, AObj.live, injOk, kindOf, rens_ints, okIns_ints, List.range, List.range.loop, mrg, mset, rEncR, rEncC_rens, rEncC_okIns, rEncC_inj]
    simp only [rEncR]
    simp (maxSteps := 2000000) only [↓vP0, vQ0, vT0, simprocAttr, rEncC_rens]
    refine callK_det (c_pModel E (by omega)) [3, 4, 5] ?_ ?_ ?_ rfl (by simp [pEncR, pEncC_rens, pEncC_okIns, pEncC_inj]) ?_
    · simp [ren, rens, sg, sig, okIn, okIns, exK, leK, leF, leV, matK, objM, renO, roSame, lh, born, AObj.born, AObj.live, injOk, kindOf, rens_ints, okIns_ints, List.range, List.range.loop, mrg, mset, pEncR, pEncC_rens, pEncC_okIns, pEncC_inj]
    · simp [ren, rens, sg, sig, okIn, okIns, exK, leK, leF, leV, matK, objM, renO, roSame, lh, born, AObj.born, AObj.live, injOk, kindOf, rens_ints, okIns_ints, List.range, List.range.loop, mrg, mset, pEncR, pEncC_rens, pEncC_okIns, pEncC_inj]
    · simp [ren, rens, sg, sig, okIn, okIns, exK, leK, leF, leV, matK, objM, renO, roSame, lh, born, AObj.born, AObj.live, injOk, kindOf, rens_ints, okIns_ints, List.range, List.range.loop, mrg, mset, pEncR, pEncC_rens, pEncC_okIns, pEncC_inj]
    simp only [pEncR]
    simp (maxSteps := 2000000) only [↓vP0, vQ0, vT0, simprocAttr, pEncC_rens]
    refine callK_det (c_rModel E (by omega)) [6, 7, 8] ?_ ?_ ?_ rfl (by simp [rEncR, rEncC_rens, rEncC_okIns, rEncC_inj]) ?_
    · simp [ren, rens, sg, sig, okIn, okIns, exK, leK, leF, leV, matK, objM, renO, roSame, lh, born, AObj.born, AObj.live, injOk, kindOf, rens_ints, okIns_ints, List.range, List.range.loop, mrg, mset, rEncR, rEncC_rens, rEncC_okIns, rEncC_inj]
    · simp [ren, rens, sg, sig, okIn, okIns, exK, leK, leF, leV, matK, objM, renO, roSame, lh, born, AObj.born, AObj.live, injOk, kindOf, rens_ints, okIns_ints, List.range, List.range.loop, mrg, mset, rEncR, rEncC_rens, rEncC_okIns, rEncC_inj]
    · simp [ren, rens, sg, sig, okIn, okIns, exK, leK, leF, leV, matK, objM, renO, roSame, lh, born, AObj.born, AObj.live, injOk, kindOf, rens_ints, okIns_ints, List.range, List.range.loop, mrg, mset, rEncR, rEncC_rens, rEncC_okIns, rEncC_inj]
    simp only [rEncR]
    simp (maxSteps := 2000000) only [↓vP0, vQ0, vT0, simprocAttr, rEncC_rens]
    refine callK_read (c_lSame E.kd E.st (by omega)) [12, 13] ?_ ?_ ?_ rfl ?_
    · simp [ren, rens, sg, sig, okIn, okIns, exK, leK, leF, leV, matK, objM, renO, roSame, lh, born, AObj.born, AObj.live, injOk, kindOf, rens_ints, okIns_ints, List.range, List.range.loop, mrg, mset]
    · simp [ren, rens, sg, sig, okIn, okIns, exK, leK, leF, leV, matK, objM, renO, roSame, lh, born, AObj.born, AObj.live, injOk, kindOf, rens_ints, okIns_ints, List.range, List.range.loop, mrg, mset]
    · simp [ren, rens, sg, sig, okIn, okIns, exK, leK, leF, leV, matK, objM, renO, roSame, lh, born, AObj.born, AObj.live, injOk, kindOf, rens_ints, okIns_ints, List.range, List.range.loop, mrg, mset]
    simp (maxSteps := 2000000) only [↓vP0, vQ0, vT0, simprocAttr]
    generalize hcode : E.fin = code at *
    refine callK_det (c_pNewDecoder kd (zeros n) code hz hcb (by omega)) [1, 10] ?_ ?_ ?_ rfl (by simp [zeros_len]) ?_
    · simp [ren, rens, sg, sig, okIn, okIns, exK, leK, leF, leV, matK, objM, renO, roSame, lh, born, AObj.born, AObj.live, injOk, kindOf, rens_ints, okIns_ints, List.range, List.range.loop, mrg, mset, zeros_len]
    · simp [ren, rens, sg, sig, okIn, okIns, exK, leK, leF, leV, matK, objM, renO, roSame, lh, born, AObj.born, AObj.live, injOk, kindOf, rens_ints, okIns_ints, List.range, List.range.loop, mrg, mset, zeros_len]
    · simp [ren, rens, sg, sig, okIn, okIns, exK, leK, leF, leV, matK, objM, renO, roSame, lh, born, AObj.born, AObj.live, injOk, kindOf, rens_ints, okIns_ints, List.range, List.range.loop, mrg, mset, zeros_len]
    simp (maxSteps := 2000000) only [↓vP0, vQ0, vT0, simprocAttr, pDecC_rens]
    have hd0 : (decNew kd (zeros n) code).Ok := decNew_ok hz hcb
    have hdl : (decNew kd (zeros n) code).st.length = n := by simp [decNew, zeros]
    have hdc : (decNew kd (zeros n) code).code = code := rfl
    have hds : (decNew kd (zeros n) code).st = zeros n := rfl
    have hes : (decOf E code).st = E.st := rfl
    have hek : (decOf E code).kd = E.kd := rfl
    generalize hD0 : decNew kd (zeros n) code = D0 at *
    generalize hDE : decOf E code = DE at *
    have hPm : ∀ x ∈ P, dErr n x = 0 := fun x hx => kept_mem (l := l) (by rw [hP]; exact hx)
    refine loopK_b tyok hD (α := Nat × Dec) (fun s => s.1 ≤ P.length ∧ Of D0 s.2 ∧ Feeds s.2 ((P.drop s.1).flatMap dEvs) DE) (fun s => P.length - s.1)
      (fun s => [.junk, .junk, .junk, .junk, .junk, .junk, .junk, .junk, .junk, .junk, .junk, .ptr 1 0, .junk, .junk, .slice 4 0 P.length, .junk, .junk, .ptr 5 0, .int .i64 s.1, .junk, .junk, .junk, .junk, .junk, .junk, .junk, .junk, .junk, .junk, .junk, .junk, .junk, .junk, .junk, .junk, .junk, .junk, .junk, .junk, .junk, .junk, .junk, .junk, .junk, .junk, .junk, .junk, .junk, .junk, .junk, .junk, .junk, .junk, .junk, .junk, .junk, .junk, .junk, .junk, .junk, .junk, .junk, .junk, .junk, .junk, .junk, .junk, .junk, .junk, .junk, .junk, .junk, .junk, .junk, .junk, .junk, .junk, .junk, .junk, .junk, .junk, .junk, .junk, .junk, .junk, .junk, .junk, .junk, .junk, .junk, .junk, .junk, .junk, .junk, .junk, .junk, .junk, .junk, .junk, .junk, .junk, .junk, .junk, .junk, .junk, .junk, .junk, .junk, .junk, .junk, .junk, .junk, .junk, .junk, .junk, .junk, .junk, .junk, .junk, .junk, .junk, .junk, .junk, .junk, .junk, .junk, .junk, .junk, .junk, .junk, .junk, .junk, .junk, .junk, .junk, .junk, .junk, .junk, .junk, .junk, .junk, .junk, .junk, .junk, .junk, .junk, .junk, .junk, .junk, .junk, .junk, .junk, .junk, .junk, .junk, .junk, .junk, .junk, .junk, .junk, .junk, .junk, .junk, .junk, .junk, .junk, .junk, .junk, .junk, .junk, .junk, .junk, .junk, .junk, .junk, .junk, .junk, .junk, .junk, .junk, .junk, .junk, .junk, .junk, .junk, .junk, .junk, .junk, .junk, .junk, .junk, .junk, .junk, .junk, .junk, .junk, .junk, .junk, .junk, .junk, .junk, .junk, .junk, .junk, .junk, .junk, .junk, .junk, .junk, .junk, .junk, .junk, .junk, .junk, .junk, .junk, .junk, .junk, .junk, .junk, .junk, .junk, .junk, .junk, .junk, .junk, .junk, .junk, .junk, .junk, .junk, .junk, .junk])
      (fun s => [.ro (deedF l) 87, .own (pEncC E 2 3) 126, .own (ints .i64 E.st) 3, .own (ints .u8 E.out) 5, .own (deedF P) 87,
        .own (pDecC s.2 6 7) 154, .own (ints .i64 s.2.st) 3, .own (ints .u8 code) 5]) (0, D0) ⟨by simp, ⟨hd0, rfl, rfl, rfl⟩, by simpa using hfeed⟩ ⟨[], [3, 4, 5, 9, 14, 15, 16], ?_⟩ ?_
    · simp (maxSteps := 2000000) only [↓vP0, vQ0, vT0, simprocAttr]
      simp only [leR]
      simp [ren, rens, sg, sig, okIn, okIns, exK, leK, leF, leV, matK, objM, renO, roSame, lh, born, AObj.born, AObj.live, injOk, kindOf, rens_ints, okIns_ints, List.range, List.range.loop, mrg, mset, leF, leV, leK, pEncC_rens, pEncC_okIns, pEncC_inj, pDecC_rens, pDecC_okIns, pDecC_inj, deedF_rens, deedF_okIns, hds]
    rintro ⟨j, D⟩ ⟨hj, hO, hfd⟩
    simp only at hj hO hfd
    have hDc : D.code = code := hO.2.2.2.trans hdc
    have hDl : D.st.length = n := hO.2.2.1.trans hdl
    simp (maxSteps := 2000000) only [↓vP0, vQ0, vT0, simprocAttr]
    (with_reducible first | refine condK_dec (fun h => ?_) (fun h => ?_) | refine condK_beq (fun h => ?_) (fun h => ?_) | refine condK_bne (fun h => ?_) (fun h => ?_) | refine condK_intro (fun h => ?_) (fun h => ?_))
    · have hjl : j < P.length := by omega
      have g := deedF_at P j hjl
      have hlen := deedF_len P
      rw [drop_one (d := deed0) hjl, List.flatMap_cons] at hfd
      have hde : dErr n (P.getD j deed0) = 0 := hPm _ (by
        have : P.getD j deed0 = P[j] := by simp [List.getD_eq_getElem?_getD, List.getElem?_eq_getElem hjl]
        rw [this]; exact List.getElem_mem hjl)
      generalize hd : P.getD j deed0 = d at *
      obtain ⟨d1, f1, f2⟩ := Feeds.app _ _ _ _ hfd
      have hev : EvsOk n (dEvs d) := by
        have := (dEv_ok hN d).1
        rw [hst0] at this
        rwa [dEv, if_pos hde] at this
      have hO1 := of_feeds _ D d1 hO (by rw [hdl]; exact hev) f1
      have hdc1 : d1.code = code := hO1.2.2.2.trans hdc
      simp (maxSteps := 2000000) only [↓vP0, vQ0, vT0, simprocAttr]
      refine chk_intro (by omega) ?_
      cases his : d.2.2.2.1 with
      | true =>
        rw [dErr, if_pos his] at hde
        rw [dEvs, if_pos his] at f1
        obtain ⟨⟨y0, y1, y2, y3⟩, y4, y5, _⟩ := ip_ok (e := encNew kd (zeros n)) (by rw [hst0]; exact hde)
        rw [hst0] at y5
        have hb : ((d.1.toNat : Nat) : Int) = d.1 := Int.toNat_of_nonneg y4
        have hK : ((d.2.1.toNat : Nat) : Int) = d.2.1 := Int.toNat_of_nonneg y0
        have hI : ((d.2.2.1.toNat : Nat) : Int) = d.2.2.1 := Int.toNat_of_nonneg y2
        generalize d.1.toNat = b at *
        generalize d.2.1.toNat = K at *
        generalize d.2.2.1.toNat = I at *
        have hq : (2 : Int) ^ K = ((2 ^ K : Nat) : Int) := by simp
        have hr := idRun_feeds b I d1 K 1 D f1
        have hv : idGetV b K D = d.2.2.1 := by
          rw [idGetV, hr, if_pos rfl, idFin_eq, Nat.mod_eq_of_lt (by omega)]
          simp only
          omega
        have c1 := c_pGetId D hO.1 b K (by omega) (by omega) (by omega) (by rw [hDc]; omega)
        rw [hv, hr, hb, hK] at c1
        simp (maxSteps := 2000000) only [↓vP0, vQ0, vT0, simprocAttr, g.is, his]
        refine drawK_of tyok rfl (usL []) (fun i => .below 0) (by kernel_rfl) ?_
        simp (maxSteps := 2000000) only [↓vP0, vQ0, vT0, simprocAttr]
        refine chk_intro (by omega) ?_
        simp (maxSteps := 2000000) only [↓vP0, vQ0, vT0, simprocAttr, g.b]
        refine chk_intro (by omega) ?_
        simp (maxSteps := 2000000) only [↓vP0, vQ0, vT0, simprocAttr, g.kk]
        refine callK_det (c1) [5, 6, 7] ?_ ?_ ?_ rfl (by simp [pDecL, pDecC_rens, pDecC_okIns, pDecC_inj, hDc]) ?_
        · simp [ren, rens, sg, sig, okIn, okIns, exK, leK, leF, leV, matK, objM, renO, roSame, lh, born, AObj.born, AObj.live, injOk, kindOf, rens_ints, okIns_ints, List.range, List.range.loop, mrg, mset, pDecL, pDecC_rens, pDecC_okIns, pDecC_inj, hDc]
        · simp [ren, rens, sg, sig, okIn, okIns, exK, leK, leF, leV, matK, objM, renO, roSame, lh, born, AObj.born, AObj.live, injOk, kindOf, rens_ints, okIns_ints, List.range, List.range.loop, mrg, mset, pDecL, pDecC_rens, pDecC_okIns, pDecC_inj, hDc]
        · simp [ren, rens, sg, sig, okIn, okIns, exK, leK, leF, leV, matK, objM, renO, roSame, lh, born, AObj.born, AObj.live, injOk, kindOf, rens_ints, okIns_ints, List.range, List.range.loop, mrg, mset, pDecL, pDecC_rens, pDecC_okIns, pDecC_inj, hDc]
        simp only [pDecL]
        simp (maxSteps := 2000000) only [↓vP0, vQ0, vT0, simprocAttr, pDecC_rens]
        refine chk_intro (by omega) ?_
        simp (maxSteps := 2000000) only [↓vP0, vQ0, vT0, simprocAttr, g.i, bne_self_eq_false]
        simp (disch := omega) only [wr64, wru64, wru8, tdv, tmd, fdv]
        refine ⟨(j + 1, d1), ⟨by simp only; omega, hO1, f2⟩, by simp only; omega, [], [1, 2, 3, 4, 5, 6, 7], ?_⟩
        simp (maxSteps := 2000000) only [↓vP0, vQ0, vT0, simprocAttr]
        simp only [leR, Int.natCast_add, Int.cast_ofNat_Int]
        simp [ren, rens, sg, sig, okIn, okIns, exK, leK, leF, leV, matK, objM, renO, roSame, lh, born, AObj.born, AObj.live, injOk, kindOf, rens_ints, okIns_ints, List.range, List.range.loop, mrg, mset, leF, leV, leK, pEncC_rens, pEncC_okIns, pEncC_inj, pDecC_rens, pDecC_okIns, pDecC_inj, deedF_rens, deedF_okIns, hdc1]
      | false =>
        rw [dErr, if_neg (by rw [his]; simp)] at hde
        rw [dEvs, if_neg (by rw [his]; simp)] at f1
        obtain ⟨y1, y4, y5, _⟩ := np_ok (e := encNew kd (zeros n)) hN (by rw [hst0]; exact hde)
        rw [hst0] at y5
        have hb : ((d.1.toNat : Nat) : Int) = d.1 := Int.toNat_of_nonneg y4
        generalize d.1.toNat = b at *
        have hr := numGet_feeds y1 f1
        have c1 := c_pNumGet D hO.1 b (by omega) (by omega) (by rw [hDc]; omega)
        rw [hr, hb] at c1
        simp only at c1
        simp (maxSteps := 2000000) only [↓vP0, vQ0, vT0, simprocAttr, g.is, his]
        refine chk_intro (by omega) ?_
        simp (maxSteps := 2000000) only [↓vP0, vQ0, vT0, simprocAttr, g.b]
        refine callK_det (c1) [5, 6, 7] ?_ ?_ ?_ rfl (by simp [pDecL, pDecC_rens, pDecC_okIns, pDecC_inj, hDc]) ?_
        · simp [ren, rens, sg, sig, okIn, okIns, exK, leK, leF, leV, matK, objM, renO, roSame, lh, born, AObj.born, AObj.live, injOk, kindOf, rens_ints, okIns_ints, List.range, List.range.loop, mrg, mset, pDecL, pDecC_rens, pDecC_okIns, pDecC_inj, hDc]
        · simp [ren, rens, sg, sig, okIn, okIns, exK, leK, leF, leV, matK, objM, renO, roSame, lh, born, AObj.born, AObj.live, injOk, kindOf, rens_ints, okIns_ints, List.range, List.range.loop, mrg, mset, pDecL, pDecC_rens, pDecC_okIns, pDecC_inj, hDc]
        · simp [ren, rens, sg, sig, okIn, okIns, exK, leK, leF, leV, matK, objM, renO, roSame, lh, born, AObj.born, AObj.live, injOk, kindOf, rens_ints, okIns_ints, List.range, List.range.loop, mrg, mset, pDecL, pDecC_rens, pDecC_okIns, pDecC_inj, hDc]
        simp only [pDecL]
        simp (maxSteps := 2000000) only [↓vP0, vQ0, vT0, simprocAttr, pDecC_rens]
        refine drawK_of tyok rfl (usL []) (fun i => .below 0) (by kernel_rfl) ?_
        simp (maxSteps := 2000000) only [↓vP0, vQ0, vT0, simprocAttr]
        refine chk_intro (by omega) ?_
        simp (maxSteps := 2000000) only [↓vP0, vQ0, vT0, simprocAttr, g.n]
        refine chk_intro (by omega) ?_
        simp (maxSteps := 2000000) only [↓vP0, vQ0, vT0, simprocAttr, g.n]
        refine chk_intro eqNum ?_
        simp (maxSteps := 2000000) only [↓vP0, vQ0, vT0, simprocAttr]
        simp (disch := omega) only [wr64, wru64, wru8, tdv, tmd, fdv]
        refine ⟨(j + 1, d1), ⟨by simp only; omega, hO1, f2⟩, by simp only; omega, [], [1, 2, 3, 4, 5, 6, 7], ?_⟩
        simp (maxSteps := 2000000) only [↓vP0, vQ0, vT0, simprocAttr]
        simp only [leR, Int.natCast_add, Int.cast_ofNat_Int]
        simp [ren, rens, sg, sig, okIn, okIns, exK, leK, leF, leV, matK, objM, renO, roSame, lh, born, AObj.born, AObj.live, injOk, kindOf, rens_ints, okIns_ints, List.range, List.range.loop, mrg, mset, leF, leV, leK, pEncC_rens, pEncC_okIns, pEncC_inj, pDecC_rens, pDecC_okIns, pDecC_inj, deedF_rens, deedF_okIns, hdc1]
    · have hjl : j = P.length := by omega
      subst hjl
      rw [List.drop_length] at hfd
      simp only [List.flatMap_nil, Feeds] at hfd
      subst hfd
      simp (maxSteps := 2000000) only [↓vP0, vQ0, vT0, simprocAttr]
      refine callK_det (c_pDModel D (by omega)) [5, 6, 7] ?_ ?_ ?_ rfl (by simp [pDecR, pDecC_rens, pDecC_okIns, pDecC_inj, hDc]) ?_
      · simp [ren, rens, sg, sig, okIn, okIns, exK, leK, leF, leV, matK, objM, renO, roSame, lh, born, AObj.born, AObj.live, injOk, kindOf, rens_ints, okIns_ints, List.range, List.range.loop, mrg, mset, pDecR, pDecC_rens, pDecC_okIns, pDecC_inj, hDc]
      · simp [ren, rens, sg, sig, okIn, okIns, exK, leK, leF, leV, matK, objM, renO, roSame, lh, born, AObj.born, AObj.live, injOk, kindOf, rens_ints, okIns_ints, List.range, List.range.loop, mrg, mset, pDecR, pDecC_rens, pDecC_okIns, pDecC_inj, hDc]
      · simp [ren, rens, sg, sig, okIn, okIns, exK, leK, leF, leV, matK, objM, renO, roSame, lh, born, AObj.born, AObj.live, injOk, kindOf, rens_ints, okIns_ints, List.range, List.range.loop, mrg, mset, pDecR, pDecC_rens, pDecC_okIns, pDecC_inj, hDc]
      simp only [pDecR, hDc, hes, hek]
      simp (maxSteps := 2000000) only [↓vP0, vQ0, vT0, simprocAttr, pDecC_rens]
      refine callK_det (c_pModel E (by omega)) [1, 2, 3] ?_ ?_ ?_ rfl (by simp [pEncR, pEncC_rens, pEncC_okIns, pEncC_inj]) ?_
      · simp [ren, rens, sg, sig, okIn, okIns, exK, leK, leF, leV, matK, objM, renO, roSame, lh, born, AObj.born, AObj.live, injOk, kindOf, rens_ints, okIns_ints, List.range, List.range.loop, mrg, mset, pEncR, pEncC_rens, pEncC_okIns, pEncC_inj]
      · simp [ren, rens, sg, sig, okIn, okIns, exK, leK, leF, leV, matK, objM, renO, roSame, lh, born, AObj.born, AObj.live, injOk, kindOf, rens_ints, okIns_ints, List.range, List.range.loop, mrg, mset, pEncR, pEncC_rens, pEncC_okIns, pEncC_inj]
      · simp [ren, rens, sg, sig, okIn, okIns, exK, leK, leF, leV, matK, objM, renO, roSame, lh, born, AObj.born, AObj.live, injOk, kindOf, rens_ints, okIns_ints, List.range, List.range.loop, mrg, mset, pEncR, pEncC_rens, pEncC_okIns, pEncC_inj]
      simp only [pEncR]
      simp (maxSteps := 2000000) only [↓vP0, vQ0, vT0, simprocAttr, pEncC_rens]
      refine callK_read (c_lSame E.kd E.st (by omega)) [8, 9] ?_ ?_ ?_ rfl ?_
      · simp [ren, rens, sg, sig, okIn, okIns, exK, leK, leF, leV, matK, objM, renO, roSame, lh, born, AObj.born, AObj.live, injOk, kindOf, rens_ints, okIns_ints, List.range, List.range.loop, mrg, mset]
      · simp [ren, rens, sg, sig, okIn, okIns, exK, leK, leF, leV, matK, objM, renO, roSame, lh, born, AObj.born, AObj.live, injOk, kindOf, rens_ints, okIns_ints, List.range, List.range.loop, mrg, mset]
      · simp [ren, rens, sg, sig, okIn, okIns, exK, leK, leF, leV, matK, objM, renO, roSame, lh, born, AObj.born, AObj.live, injOk, kindOf, rens_ints, okIns_ints, List.range, List.range.loop, mrg, mset]
      simp (maxSteps := 2000000) only [↓vP0, vQ0, vT0, simprocAttr]
      refine callK_pure (c_Sane) rfl rfl ?_
      simp (maxSteps := 2000000) only [↓vP0, vQ0, vT0, simprocAttr]
      exact exitB_P (exit_keep (L1 := [.ro (deedF l) 87]) ⟨rfl, rfl⟩ trivial hkeep)
end Go.Proofs.Ytbfefpkhalegmaa

set_option linter.unusedVariables false
set_option linter.unusedSimpArgs false
namespace Go.Proofs.Ytbfefpkhalegmaa
open Go Go.RowKit Go.ChangeShapes Go.WideShapes
set_option maxRecDepth 100000

theorem open_part {H : Type} {enc : TypeId × Value → H} {P : Program} {W : World} {base : Nat} {spare : Nat → Bool} {held : Bool} {fuel : Nat} {t : TypeId} {cs : List Value} {x : DataW H × List MemPlace} {fs : Array Field}
    (hs : P.underlying t = some (.struct fs)) (h : DataW.trod enc P W base spare held fuel t cs = some x) :
    ∀ (j off : Nat) (ty : TypeId) (k : Nat) (cs' : List Value), (∃ f, fs[j]? = some f ∧ f.offset = off ∧ f.type = ty) → P.cellsOf ty = k → (cs.drop off).take k = cs' → ∃ n y, DataW.trod enc P W base spare held n ty cs' = some y := by
  obtain ⟨xs, n, _, _, hlen, hxs, hf⟩ := DataW.trod_struct hs h
  rintro j off ty k cs' ⟨f, hj, rfl, rfl⟩ rfl rfl
  have hjl := (Array.getElem?_eq_some_iff.1 hj).1
  have h2 := hf j f hj
  have hx : xs[j]? = some (xs[j]'(by omega)) := List.getElem?_eq_getElem (by omega)
  exact ⟨n, _, h2.trans hx⟩
theorem cell_spot3 {W : World} {b o : Nat} {sp : Option Nat} {v : Value} (h : W.cell? ((⟨b, o, sp⟩ : Addr).add 0) = some v) : sp = none := by
  simpa [Addr.add] using World.cell?_spot h
theorem deedF_cell (l : List Deed) (i s : Nat) (hi : i < l.length) (hs : s < 6) : (deedF l)[i * 6 + s]? = (deedC (l.getD i deed0))[s]? := by
  have := congrArg (fun x => x[s]?) (deedF_get l i hi)
  simp only [List.getElem?_take, List.getElem?_drop, if_pos hs] at this
  exact this

theorem row_deeds {W : World} {H : Type} {enc : TypeId × Value → H} {fuel : Nat} {c : Value} {x : DataW H × List MemPlace}
    (h : DataW.trod enc Try.prog W 0 (fun _ => true) true fuel 83 [c] = some x) (ty : TypeId) : ∃ (y : RoArg) (l : List Deed) (a : Option Addr) (cap : Nat), c = .slice a l.length cap ∧ y.cs = deedF l ∧ y.e = ty ∧ l.length ≤ maxLen ∧ (∀ d ∈ l, I6 d.1) ∧
    (∀ B ρ, CRel B ρ y.cs (fun j => W.cell? ⟨y.blk, y.base + j, none⟩)) ∧ ∀ (B : Nat → Prop) (ρ : Nat → Pl) (i : Nat), B i → ρ i = ⟨y.blk, y.base, false, 0, 0⟩ → VRel B ρ (.slice i 0 l.length) c := by
  rcases Deep.open_slice Try.underlying83 h with ⟨hcs, _⟩ | ⟨a, len, cap, m, n, D, Pl', hcs, _, hl, hm, hmm, _, hx⟩
  · obtain rfl : c = .slice none 0 0 := by simpa using hcs
    exact ⟨⟨[], ty, 0, 0⟩, [], none, 0, rfl, rfl, rfl, by simp, by simp, fun B ρ j v hv => by simp at hv, fun B ρ i hb _ => .slice0 i 0 none hb⟩
  · obtain rfl : c = .slice (some a) len cap := by simpa using hcs
    simp only [if_true] at hmm
    subst hmm
    by_cases h0 : m = 0
    · have hl0 : len = 0 := by omega
      subst h0 hl0
      exact ⟨⟨[], ty, 0, 0⟩, [], some a, 0, rfl, rfl, rfl, by simp, by simp, fun B ρ j v hv => by simp at hv, fun B ρ i hb _ => .slice0 i 0 (some a) hb⟩
    have hC : Try.prog.cellsOf 87 = 6 := by kernel_rfl
    have hN : Try.prog.cellsOf 28 = 2 := by kernel_rfl
    have hI : Try.prog.cellsOf 3 = 1 := by kernel_rfl
    have hB : Try.prog.cellsOf 4 = 1 := by kernel_rfl
    rw [hC] at hx
    obtain ⟨b, o, sp⟩ := a
    have hsp : sp = none := by
      obtain ⟨cs', hcells, _⟩ := hx 0 (by omega)
      obtain ⟨_, hlen, hget⟩ := World.cells?_some hcells
      have g0 := hget 0 (by omega)
      rw [List.getElem?_eq_getElem (by omega)] at g0
      exact cell_spot3 (by simpa [Addr.add] using g0)
    subst hsp
    have each : ∀ i, ∃ q : Deed, i < m → I6 q.1 ∧ W.cell? ⟨b, o + (i * 6 + 0), none⟩ = some (.int .i64 q.1) ∧ W.cell? ⟨b, o + (i * 6 + 1), none⟩ = some (.int .i64 q.2.1) ∧ W.cell? ⟨b, o + (i * 6 + 2), none⟩ = some (.int .i64 q.2.2.1) ∧
        W.cell? ⟨b, o + (i * 6 + 3), none⟩ = some (.bool q.2.2.2.1) ∧ W.cell? ⟨b, o + (i * 6 + 4), none⟩ = some (.bool q.2.2.2.2.1) ∧ W.cell? ⟨b, o + (i * 6 + 5), none⟩ = some (.int .i64 q.2.2.2.2.2) := by
      intro i
      by_cases hi : i < m
      · obtain ⟨cs', hcells, ht⟩ := hx i hi
        obtain ⟨_, hlen, hget⟩ := World.cells?_some hcells
        have hp := open_part Try.underlying87 ht
        match cs', hlen with
        | [c0, c1, c2, c3, c4, c5], _ =>
          obtain ⟨_, _, h0⟩ := hp 0 0 3 1 [c0] ⟨_, rfl, rfl, rfl⟩ hI rfl
          obtain ⟨_, _, h1⟩ := hp 1 1 3 1 [c1] ⟨_, rfl, rfl, rfl⟩ hI rfl
          obtain ⟨_, _, h2⟩ := hp 2 2 3 1 [c2] ⟨_, rfl, rfl, rfl⟩ hI rfl
          obtain ⟨_, _, h3⟩ := hp 3 3 4 1 [c3] ⟨_, rfl, rfl, rfl⟩ hB rfl
          obtain ⟨_, _, h4⟩ := hp 4 4 28 2 [c4, c5] ⟨_, rfl, rfl, rfl⟩ hN rfl
          have hq := open_part Try.underlying28 h4
          obtain ⟨_, _, h5⟩ := hq 0 0 4 1 [c4] ⟨_, rfl, rfl, rfl⟩ hB rfl
          obtain ⟨_, _, h6⟩ := hq 1 1 3 1 [c5] ⟨_, rfl, rfl, rfl⟩ hI rfl
          obtain ⟨n0, e0, _, w0⟩ := DataW.trod_int Try.underlying3 h0
          obtain ⟨n1, e1, _, w1⟩ := DataW.trod_int Try.underlying3 h1
          obtain ⟨n2, e2, _, w2⟩ := DataW.trod_int Try.underlying3 h2
          obtain ⟨n3, e3, _⟩ := DataW.trod_bool Try.underlying4 h3
          obtain ⟨n5, e5, _⟩ := DataW.trod_bool Try.underlying4 h5
          obtain ⟨n6, e6, _, w6⟩ := DataW.trod_int Try.underlying3 h6
          simp at e0 e1 e2 e3 e5 e6
          subst e0 e1 e2 e3 e5 e6
          refine ⟨(n0, n1, n2, n3, n5, n6), fun _ => ⟨wf_i64 w0, ?_⟩⟩
          have ga : ∀ s, (((⟨b, o, none⟩ : Addr).add (i * 6)).add s) = ⟨b, o + (i * 6 + s), none⟩ := fun s => by rw [addr_add, addr_add, Nat.add_assoc]
          have g := fun s (hs : s < 6) => (hget s (by simpa using hs))
          simp only [ga] at g
          exact ⟨by simpa using g 0 (by omega), by simpa using g 1 (by omega), by simpa using g 2 (by omega), by simpa using g 3 (by omega), by simpa using g 4 (by omega), by simpa using g 5 (by omega)⟩
      · exact ⟨deed0, fun h => absurd h hi⟩
    let q := fun i => Classical.choose (each i)
    have hq := fun i => Classical.choose_spec (each i)
    have hlen : ((List.range len).map q).length = len := by simp
    have hgd : ∀ i, i < len → ((List.range len).map q).getD i deed0 = q i := fun i hi => by simp [List.getD_eq_getElem?_getD, hi]
    refine ⟨⟨deedF ((List.range len).map q), ty, b, o⟩, (List.range len).map q, some ⟨b, o, none⟩, m, by rw [hlen], rfl, rfl, by rw [hlen]; omega, fun d hd => ?_, fun B ρ j v hv => ?_, fun B ρ i hb hp => ?_⟩
    · obtain ⟨i, hi, rfl⟩ := List.mem_map.1 hd
      exact (hq i (by have := List.mem_range.1 hi; omega)).1
    · have hjl := (List.getElem?_eq_some_iff.1 hv).1
      rw [deedF_len, hlen] at hjl
      obtain ⟨i, s, rfl, hs⟩ : ∃ i s, j = i * 6 + s ∧ s < 6 := ⟨j / 6, j % 6, by omega, by omega⟩
      rw [deedF_cell _ i s (by rw [hlen]; omega) hs, hgd i (by omega)] at hv
      obtain ⟨_, k0, k1, k2, k3, k4, k5⟩ := hq i (by omega)
      rcases (show s = 0 ∨ s = 1 ∨ s = 2 ∨ s = 3 ∨ s = 4 ∨ s = 5 by omega) with rfl | rfl | rfl | rfl | rfl | rfl
      · have : v = .int .i64 (q i).1 := by simpa [deedC] using hv.symm
        subst this; exact ⟨_, k0, .int _ _⟩
      · have : v = .int .i64 (q i).2.1 := by simpa [deedC] using hv.symm
        subst this; exact ⟨_, k1, .int _ _⟩
      · have : v = .int .i64 (q i).2.2.1 := by simpa [deedC] using hv.symm
        subst this; exact ⟨_, k2, .int _ _⟩
      · have : v = .bool (q i).2.2.2.1 := by simpa [deedC] using hv.symm
        subst this; exact ⟨_, k3, .bool _⟩
      · have : v = .bool (q i).2.2.2.2.1 := by simpa [deedC] using hv.symm
        subst this; exact ⟨_, k4, .bool _⟩
      · have : v = .int .i64 (q i).2.2.2.2.2 := by simpa [deedC] using hv.symm
        subst this; exact ⟨_, k5, .int _ _⟩
    · rw [hlen]
      have := VRel.slice (B := B) (ρ := ρ) i 0 len m hb hl (fun h => by rw [hp] at h; cases h)
      rw [hp] at this
      exact this
end Go.Proofs.Ytbfefpkhalegmaa
