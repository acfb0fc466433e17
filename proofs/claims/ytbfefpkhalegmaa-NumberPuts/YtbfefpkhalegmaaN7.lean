/- Contracts: Put of a number, of both. -/
import Derived.Test.YtbfefpkhalegmaaN6
import Derived.KernelRfl

set_option linter.unusedVariables false
set_option linter.unusedSimpArgs false
namespace Go.Proofs.Ytbfefpkhalegmaa
open Go
set_option maxHeartbeats 4000000
set_option maxRecDepth 20000

theorem evF_at (l : List (Nat × Int)) (i : Nat) (h : i < l.length) : (evF l)[i * 2]? = some (.int .i64 ((l.getD i (0, 0)).1 : Nat)) ∧ (evF l)[i * 2 + 1]? = some (.int .i64 (l.getD i (0, 0)).2) := by
  have g := evF_get l i h
  have g0 := congrArg (fun x => x[0]?) g
  have g1 := congrArg (fun x => x[1]?) g
  simp only [List.getElem?_take, List.getElem?_drop] at g0 g1
  exact ⟨by simpa using g0, by simpa using g1⟩
abbrev I6 (n : Int) : Prop := -9223372036854775808 ≤ n ∧ n ≤ 9223372036854775807
def npErr (none : Bool) (n base : Int) (k : Nat) : Int := if numB none n = false then 2 else if base < 0 ∨ (k : Int) - 48 < base then 2 else 0
def npEnc (e : Enc) (none : Bool) (n base : Int) : Enc := if npErr none n base e.st.length = 0 then encAll e (mv base.toNat (numEv none n)) else e
theorem np_bad {e : Enc} {none : Bool} {n base a : Int} (h : npErr none n base e.st.length = a) (h0 : a ≠ 0) : npEnc e none n base = e := by rw [npEnc, if_neg (by rw [h]; exact h0)]
theorem np_ok {e : Enc} (he : e.Ok) {none : Bool} {n base : Int} (h : npErr none n base e.st.length = 0) : NumOk none n ∧ 0 ≤ base ∧ base + 48 ≤ e.st.length ∧ EvsOk e.st.length (mv base.toNat (numEv none n)) ∧ (numEv none n).length ≤ 50 := by
  have hb : numB none n = true := by
    cases hh : numB none n with
    | true => rfl
    | false => rw [npErr, if_pos hh] at h; omega
  have hf : ¬ (base < 0 ∨ (e.st.length : Int) - 48 < base) := by
    intro hh
    rw [npErr, if_neg (by rw [hb]; simp), if_pos hh] at h; omega
  have hn := (numB_iff _ _).1 hb
  obtain ⟨h1, h2⟩ := numEv_ok hn
  refine ⟨hn, by omega, by omega, fun x hx => ?_, h2⟩
  obtain ⟨y, hy, rfl⟩ := List.mem_map.1 hx
  have := h1 y hy
  exact ⟨by simp only; omega, this.2⟩
theorem npEnc_ok {e : Enc} (he : e.Ok) {none : Bool} {n base : Int} : (npEnc e none n base).Ok ∧ (npEnc e none n base).kd = e.kd ∧ (npEnc e none n base).st.length = e.st.length ∧ (npEnc e none n base).out.length ≤ e.out.length + 200 := by
  unfold npEnc
  split
  · rename_i h
    obtain ⟨_, _, _, h1, h2⟩ := np_ok he h
    obtain ⟨a, b, c, d⟩ := encAll_ok _ e he h1
    rw [mv_len] at d
    exact ⟨a, b, c, by omega⟩
  · exact ⟨he, rfl, rfl, by omega⟩

theorem c_pNPut (e : Enc) (he : e.Ok) (base : Int) (hbase : I6 base) (none : Bool) (n : Int) (hl : e.st.length ≤ 8192) (hout : e.out.length ≤ 1000000000) :
    LCall Try.prog 56 [.ptr 0 0, .int .i64 base, numV none n] (pEncL e) fun r L => r = .int .i64 (npErr none n base e.st.length) ∧ L = pEncM (npEnc e none n base) := by
  refine lcall_of_vc tyok Try.func56 rfl (by rfl) Try.results56 Try.ntmps56 ?_; intro C hD
  simp only [pEncL] at hD ⊢
  simp (maxSteps := 2000000) only [↓vP0, vQ0, vT0, simprocAttr]
  refine callK_read (c_pPutBad e) [0, 1, 2] ?_ ?_ ?_ rfl ?_
  · simp [ren, rens, sg, sig, okIn, okIns, exK, leK, leF, leV, matK, objM, renO, roSame, lh, born, AObj.born, AObj.live, injOk, kindOf, rens_ints, okIns_ints, List.range, List.range.loop, mrg, mset, pEncR, pEncC_rens, pEncC_okIns, pEncC_inj]
  · simp [ren, rens, sg, sig, okIn, okIns, exK, leK, leF, leV, matK, objM, renO, roSame, lh, born, AObj.born, AObj.live, injOk, kindOf, rens_ints, okIns_ints, List.range, List.range.loop, mrg, mset, pEncR, pEncC_rens, pEncC_okIns, pEncC_inj]
  · simp [ren, rens, sg, sig, okIn, okIns, exK, leK, leF, leV, matK, objM, renO, roSame, lh, born, AObj.born, AObj.live, injOk, kindOf, rens_ints, okIns_ints, List.range, List.range.loop, mrg, mset, pEncR, pEncC_rens, pEncC_okIns, pEncC_inj]
  simp (maxSteps := 2000000) only [↓vP0, vQ0, vT0, simprocAttr]
  refine callK_pure (c_pNumValid none n) rfl rfl ?_
  cases hb : numB none n with
  | false =>
    have f1 : npErr none n base e.st.length = 2 := by rw [npErr, if_pos hb]
    rw [np_bad f1 (by omega), f1]
    simp (maxSteps := 2000000) only [↓vP0, vQ0, vT0, simprocAttr]
    refine exit_of [2] (.int .i64 2) (pEncM e) ⟨rfl, rfl⟩ ?_ ?_ rfl ?_ ?_
    all_goals simp [ren, rens, sg, sig, okIn, okIns, exK, leK, leF, leV, matK, objM, renO, roSame, lh, born, AObj.born, AObj.live, injOk, kindOf, rens_ints, okIns_ints, List.range, List.range.loop, mrg, mset, pEncL, pEncM, pEncC_rens, pEncC_okIns, pEncC_inj]
  | true =>
    simp (maxSteps := 2000000) only [↓vP0, vQ0, vT0, simprocAttr]
    refine callK_det (c_pModel e hl) [0, 1, 2] ?_ ?_ ?_ rfl (by simp [pEncR, pEncC_rens, pEncC_okIns, pEncC_inj]) ?_
    · simp [ren, rens, sg, sig, okIn, okIns, exK, leK, leF, leV, matK, objM, renO, roSame, lh, born, AObj.born, AObj.live, injOk, kindOf, rens_ints, okIns_ints, List.range, List.range.loop, mrg, mset, pEncR, pEncC_rens, pEncC_okIns, pEncC_inj]
    · simp [ren, rens, sg, sig, okIn, okIns, exK, leK, leF, leV, matK, objM, renO, roSame, lh, born, AObj.born, AObj.live, injOk, kindOf, rens_ints, okIns_ints, List.range, List.range.loop, mrg, mset, pEncR, pEncC_rens, pEncC_okIns, pEncC_inj]
    · simp [ren, rens, sg, sig, okIn, okIns, exK, leK, leF, leV, matK, objM, renO, roSame, lh, born, AObj.born, AObj.live, injOk, kindOf, rens_ints, okIns_ints, List.range, List.range.loop, mrg, mset, pEncR, pEncC_rens, pEncC_okIns, pEncC_inj]
    simp only [pEncR]
    simp (maxSteps := 2000000) only [↓vP0, vQ0, vT0, simprocAttr, pEncC_rens]
    refine callK_read (c_fits e.kd e.st hl base 48 (by omega) (by omega) hbase) [4] ?_ ?_ ?_ rfl ?_
    · simp [ren, rens, sg, sig, okIn, okIns, exK, leK, leF, leV, matK, objM, renO, roSame, lh, born, AObj.born, AObj.live, injOk, kindOf, rens_ints, okIns_ints, List.range, List.range.loop, mrg, mset]
    · simp [ren, rens, sg, sig, okIn, okIns, exK, leK, leF, leV, matK, objM, renO, roSame, lh, born, AObj.born, AObj.live, injOk, kindOf, rens_ints, okIns_ints, List.range, List.range.loop, mrg, mset]
    · simp [ren, rens, sg, sig, okIn, okIns, exK, leK, leF, leV, matK, objM, renO, roSame, lh, born, AObj.born, AObj.live, injOk, kindOf, rens_ints, okIns_ints, List.range, List.range.loop, mrg, mset]
    by_cases hf : base < 0 ∨ (e.st.length : Int) - 48 < base
    · have f1 : npErr none n base e.st.length = 2 := by rw [npErr, if_neg (by rw [hb]; simp), if_pos hf]
      rw [np_bad f1 (by omega), f1, if_pos hf]
      simp (maxSteps := 2000000) only [↓vP0, vQ0, vT0, simprocAttr]
      refine exit_of [2] (.int .i64 2) (pEncM e) ⟨rfl, rfl⟩ ?_ ?_ rfl ?_ ?_
      all_goals simp [ren, rens, sg, sig, okIn, okIns, exK, leK, leF, leV, matK, objM, renO, roSame, lh, born, AObj.born, AObj.live, injOk, kindOf, rens_ints, okIns_ints, List.range, List.range.loop, mrg, mset, pEncL, pEncM, pEncC_rens, pEncC_okIns, pEncC_inj]
    · have f1 : npErr none n base e.st.length = 0 := by rw [npErr, if_neg (by rw [hb]; simp), if_neg hf]
      obtain ⟨h1, h2, h3, h4, h5⟩ := np_ok he f1
      obtain ⟨b, rfl⟩ : ∃ b : Nat, base = (b : Int) := ⟨_, (Int.toNat_of_nonneg h2).symm⟩
      rw [npEnc, if_pos f1, f1, if_neg hf]
      rw [Int.toNat_natCast] at h4 ⊢
      have hml := mv_len b (numEv none n)
      have c2 := c_put e he (mv b (numEv none n)) h4 (by omega) (by omega)
      generalize encAll e (mv b (numEv none n)) = E at *
      simp (maxSteps := 2000000) only [↓vP0, vQ0, vT0, simprocAttr]
      refine callK_det (c_pEvents b (by omega) none n h1) [] ?_ ?_ ?_ rfl (by simp [evF_rens]) ?_
      · simp [ren, rens, sg, sig, okIn, okIns, exK, leK, leF, leV, matK, objM, renO, roSame, lh, born, AObj.born, AObj.live, injOk, kindOf, rens_ints, okIns_ints, List.range, List.range.loop, mrg, mset, evF_rens]
      · simp [ren, rens, sg, sig, okIn, okIns, exK, leK, leF, leV, matK, objM, renO, roSame, lh, born, AObj.born, AObj.live, injOk, kindOf, rens_ints, okIns_ints, List.range, List.range.loop, mrg, mset, evF_rens]
      · simp [ren, rens, sg, sig, okIn, okIns, exK, leK, leF, leV, matK, objM, renO, roSame, lh, born, AObj.born, AObj.live, injOk, kindOf, rens_ints, okIns_ints, List.range, List.range.loop, mrg, mset, evF_rens]
      simp (maxSteps := 2000000) only [↓vP0, vQ0, vT0, simprocAttr, evF_rens]
      refine callK_det (c2) [0, 1, 2, 5] ?_ ?_ ?_ rfl (by simp [hml, pEncC_rens, pEncC_okIns, pEncC_inj, evF_rens, evF_okIns]) ?_
      · simp [ren, rens, sg, sig, okIn, okIns, exK, leK, leF, leV, matK, objM, renO, roSame, lh, born, AObj.born, AObj.live, injOk, kindOf, rens_ints, okIns_ints, List.range, List.range.loop, mrg, mset, hml, pEncC_rens, pEncC_okIns, pEncC_inj, evF_rens, evF_okIns]
      · simp [ren, rens, sg, sig, okIn, okIns, exK, leK, leF, leV, matK, objM, renO, roSame, lh, born, AObj.born, AObj.live, injOk, kindOf, rens_ints, okIns_ints, List.range, List.range.loop, mrg, mset, hml, pEncC_rens, pEncC_okIns, pEncC_inj, evF_rens, evF_okIns]
      · simp [ren, rens, sg, sig, okIn, okIns, exK, leK, leF, leV, matK, objM, renO, roSame, lh, born, AObj.born, AObj.live, injOk, kindOf, rens_ints, okIns_ints, List.range, List.range.loop, mrg, mset, hml, pEncC_rens, pEncC_okIns, pEncC_inj, evF_rens, evF_okIns]
      simp (maxSteps := 2000000) only [↓vP0, vQ0, vT0, simprocAttr, pEncC_rens]
      refine exit_of [6] (.int .i64 0) (pEncM E) ⟨rfl, rfl⟩ ?_ ?_ rfl ?_ ?_
      all_goals simp [ren, rens, sg, sig, okIn, okIns, exK, leK, leF, leV, matK, objM, renO, roSame, lh, born, AObj.born, AObj.live, injOk, kindOf, rens_ints, okIns_ints, List.range, List.range.loop, mrg, mset, pEncL, pEncM, pEncC_rens, pEncC_okIns, pEncC_inj]

theorem c_rNPut (e : Enc) (he : e.Ok) (base : Int) (hbase : I6 base) (none : Bool) (n : Int) (hl : e.st.length ≤ 8192) (hout : e.out.length ≤ 1000000000) :
    LCall Try.prog 57 [.ptr 0 0, .int .i64 base, numV none n] (rEncL e) fun r L => r = .int .i64 (npErr none n base e.st.length) ∧ L = rEncM (npEnc e none n base) := by
  refine lcall_of_vc tyok Try.func57 rfl (by rfl) Try.results57 Try.ntmps57 ?_; intro C hD
  simp only [rEncL] at hD ⊢
  simp (maxSteps := 2000000) only [↓vP0, vQ0, vT0, simprocAttr]
  refine callK_pure (c_rNumValid none n) rfl rfl ?_
  cases hb : numB none n with
  | false =>
    have f1 : npErr none n base e.st.length = 2 := by rw [npErr, if_pos hb]
    rw [np_bad f1 (by omega), f1]
    simp (maxSteps := 2000000) only [↓vP0, vQ0, vT0, simprocAttr]
    refine exit_of [2] (.int .i64 2) (rEncM e) ⟨rfl, rfl⟩ ?_ ?_ rfl ?_ ?_
    all_goals simp [ren, rens, sg, sig, okIn, okIns, exK, leK, leF, leV, matK, objM, renO, roSame, lh, born, AObj.born, AObj.live, injOk, kindOf, rens_ints, okIns_ints, List.range, List.range.loop, mrg, mset, rEncL, rEncM, rEncC_rens, rEncC_okIns, rEncC_inj]
  | true =>
    simp (maxSteps := 2000000) only [↓vP0, vQ0, vT0, simprocAttr]
    refine callK_det (c_rModel e hl) [0, 1, 2] ?_ ?_ ?_ rfl (by simp [rEncR, rEncC_rens, rEncC_okIns, rEncC_inj]) ?_
    · simp [ren, rens, sg, sig, okIn, okIns, exK, leK, leF, leV, matK, objM, renO, roSame, lh, born, AObj.born, AObj.live, injOk, kindOf, rens_ints, okIns_ints, List.range, List.range.loop, mrg, mset, rEncR, rEncC_rens, rEncC_okIns, rEncC_inj]
    · simp [ren, rens, sg, sig, okIn, okIns, exK, leK, leF, leV, matK, objM, renO, roSame, lh, born, AObj.born, AObj.live, injOk, kindOf, rens_ints, okIns_ints, List.range, List.range.loop, mrg, mset, rEncR, rEncC_rens, rEncC_okIns, rEncC_inj]
    · simp [ren, rens, sg, sig, okIn, okIns, exK, leK, leF, leV, matK, objM, renO, roSame, lh, born, AObj.born, AObj.live, injOk, kindOf, rens_ints, okIns_ints, List.range, List.range.loop, mrg, mset, rEncR, rEncC_rens, rEncC_okIns, rEncC_inj]
    simp only [rEncR]
    simp (maxSteps := 2000000) only [↓vP0, vQ0, vT0, simprocAttr, rEncC_rens]
    refine callK_pure (c_room e.st.length base 48 (by omega) (by omega) hbase) rfl rfl ?_
    by_cases hf : base < 0 ∨ (e.st.length : Int) - 48 < base
    · have f1 : npErr none n base e.st.length = 2 := by rw [npErr, if_neg (by rw [hb]; simp), if_pos hf]
      have e0 : decide (0 ≤ base ∧ 48 ≤ (e.st.length : Int) - base) = false := decide_eq_false (by omega)
      rw [np_bad f1 (by omega), f1]
      simp (maxSteps := 2000000) only [↓vP0, vQ0, vT0, simprocAttr, e0]
      refine exit_of [2] (.int .i64 2) (rEncM e) ⟨rfl, rfl⟩ ?_ ?_ rfl ?_ ?_
      all_goals simp [ren, rens, sg, sig, okIn, okIns, exK, leK, leF, leV, matK, objM, renO, roSame, lh, born, AObj.born, AObj.live, injOk, kindOf, rens_ints, okIns_ints, List.range, List.range.loop, mrg, mset, rEncL, rEncM, rEncC_rens, rEncC_okIns, rEncC_inj]
    · have f1 : npErr none n base e.st.length = 0 := by rw [npErr, if_neg (by rw [hb]; simp), if_neg hf]
      have e0 : decide (0 ≤ base ∧ 48 ≤ (e.st.length : Int) - base) = true := decide_eq_true (by omega)
      obtain ⟨h1, h2, h3, h4, h5⟩ := np_ok he f1
      obtain ⟨b, rfl⟩ : ∃ b : Nat, base = (b : Int) := ⟨_, (Int.toNat_of_nonneg h2).symm⟩
      rw [npEnc, if_pos f1, f1]
      rw [Int.toNat_natCast] at h4 ⊢
      have hev := (numEv_ok h1).1
      simp (maxSteps := 2000000) only [↓vP0, vQ0, vT0, simprocAttr, e0]
      refine callK_det (c_rEvents none n h1) [] ?_ ?_ ?_ rfl (by simp [evF_rens]) ?_
      · simp [ren, rens, sg, sig, okIn, okIns, exK, leK, leF, leV, matK, objM, renO, roSame, lh, born, AObj.born, AObj.live, injOk, kindOf, rens_ints, okIns_ints, List.range, List.range.loop, mrg, mset, evF_rens]
      · simp [ren, rens, sg, sig, okIn, okIns, exK, leK, leF, leV, matK, objM, renO, roSame, lh, born, AObj.born, AObj.live, injOk, kindOf, rens_ints, okIns_ints, List.range, List.range.loop, mrg, mset, evF_rens]
      · simp [ren, rens, sg, sig, okIn, okIns, exK, leK, leF, leV, matK, objM, renO, roSame, lh, born, AObj.born, AObj.live, injOk, kindOf, rens_ints, okIns_ints, List.range, List.range.loop, mrg, mset, evF_rens]
      simp (maxSteps := 2000000) only [↓vP0, vQ0, vT0, simprocAttr, evF_rens]
      generalize hEv : numEv none n = l at *
      refine loopK_ren tyok hD (α := Nat) (fun i => i ≤ l.length) (fun i => l.length - i) (fun i => [.ptr 0 0, .int .i64 b, .junk, .junk, .junk, .junk, .junk, .slice 4 0 l.length, .int .i64 i, .junk, .junk, .junk, .junk, .junk, .junk, .junk, .junk, .junk, .junk, .junk, .junk, .junk, .junk, .junk, .junk, .junk, .junk, .junk, .junk, .junk, .junk, .junk, .junk, .junk, .junk, .junk, .junk, .junk, .junk, .junk, .junk, .junk, .junk])
        (fun i => [.own (rEncC (encAll e (mv b (l.take i))) 1 3) 132, .own (ints .i64 (encAll e (mv b (l.take i))).st) 3, .dead, .own (ints .u8 (encAll e (mv b (l.take i))).out) 5, .own (evF l) 100]) 0 (by omega) ⟨[2, 5], ?_⟩ ?_
      · simp only [leR, List.take_zero, encAll, mv, List.map_nil]
        simp [ren, rens, sg, sig, okIn, okIns, exK, leK, leF, leV, matK, objM, renO, roSame, lh, born, AObj.born, AObj.live, injOk, kindOf, rens_ints, okIns_ints, List.range, List.range.loop, mrg, mset, leF, leV, leK, rEncC_rens, rEncC_okIns, rEncC_inj, evF_rens, evF_okIns]
      intro i hi
      obtain ⟨k1, k2, k3, k4⟩ := encAll_ok (mv b (l.take i)) e he (fun x hx => by
        obtain ⟨y, hy, rfl⟩ := List.mem_map.1 hx
        exact h4 _ (List.mem_map.2 ⟨y, List.mem_of_mem_take hy, rfl⟩))
      rw [mv_len] at k4
      have htl := List.length_take_le i l
      simp (maxSteps := 2000000) only [↓vP0, vQ0, vT0, simprocAttr]
      (with_reducible first | refine condK_dec (fun h => ?_) (fun h => ?_) | refine condK_beq (fun h => ?_) (fun h => ?_) | refine condK_bne (fun h => ?_) (fun h => ?_) | refine condK_intro (fun h => ?_) (fun h => ?_))
      · have hil : i < l.length := by omega
        have g := evF_get l i hil
        have hx := hev.get hil
        have hnx : encAll e (mv b (l.take (i + 1))) = (encAll e (mv b (l.take i))).put (b + (l.getD i (0, 0)).1) (l.getD i (0, 0)).2 := by
          have : l.getD i (0, 0) = l[i] := by simp [List.getD_eq_getElem?_getD, List.getElem?_eq_getElem hil]
          rw [List.take_succ_eq_append_getElem hil, mv_app, encAll_app, this]; rfl
        generalize hE : encAll e (mv b (l.take i)) = E at *
        have hel := evF_len l
        simp (maxSteps := 2000000) only [↓vP0, vQ0, vT0, simprocAttr]
        refine drawK_of tyok rfl (usL []) (fun i => .below 0) (by kernel_rfl) ?_
        have g2 := evF_at l i hil
        have ew : IntKind.i64.wrap ((b : Int) + ((l.getD i (0, 0)).1 : Nat)) = ((b + (l.getD i (0, 0)).1 : Nat) : Int) := by rw [Int.natCast_add]; exact wr64 _ (by omega) (by omega)
        simp (maxSteps := 2000000) only [↓vP0, vQ0, vT0, simprocAttr]
        refine chk_intro (by omega) ?_
        simp (maxSteps := 2000000) only [↓vP0, vQ0, vT0, simprocAttr, g2.1, ew]
        refine chk_intro (by omega) ?_
        simp (maxSteps := 2000000) only [↓vP0, vQ0, vT0, simprocAttr, g2.2]
        refine callK_det (c_rPut E k1 (b + (l.getD i (0, 0)).1) (by omega) (l.getD i (0, 0)).2 hx.2 (by omega)) [0, 1, 3] ?_ ?_ ?_ rfl (by simp [rEncL, rEncM, rEncC_rens, rEncC_okIns, rEncC_inj]) ?_
        · simp [ren, rens, sg, sig, okIn, okIns, exK, leK, leF, leV, matK, objM, renO, roSame, lh, born, AObj.born, AObj.live, injOk, kindOf, rens_ints, okIns_ints, List.range, List.range.loop, mrg, mset, rEncL, rEncM, rEncC_rens, rEncC_okIns, rEncC_inj]
        · simp [ren, rens, sg, sig, okIn, okIns, exK, leK, leF, leV, matK, objM, renO, roSame, lh, born, AObj.born, AObj.live, injOk, kindOf, rens_ints, okIns_ints, List.range, List.range.loop, mrg, mset, rEncL, rEncM, rEncC_rens, rEncC_okIns, rEncC_inj]
        · simp [ren, rens, sg, sig, okIn, okIns, exK, leK, leF, leV, matK, objM, renO, roSame, lh, born, AObj.born, AObj.live, injOk, kindOf, rens_ints, okIns_ints, List.range, List.range.loop, mrg, mset, rEncL, rEncM, rEncC_rens, rEncC_okIns, rEncC_inj]
        simp only [rEncL, rEncM]
        simp (maxSteps := 2000000) only [↓vP0, vQ0, vT0, simprocAttr, rEncC_rens]
        simp (disch := omega) only [wr64, wru64, wru8, tdv, tmd, fdv]
        refine ⟨i + 1, by omega, by omega, [5, 4], ?_⟩
        simp only [leR, hnx, Int.natCast_add, Int.cast_ofNat_Int]
        simp [ren, rens, sg, sig, okIn, okIns, exK, leK, leF, leV, matK, objM, renO, roSame, lh, born, AObj.born, AObj.live, injOk, kindOf, rens_ints, okIns_ints, List.range, List.range.loop, mrg, mset, leF, leV, leK, rEncC_rens, rEncC_okIns, rEncC_inj, evF_rens, evF_okIns]
      · have hil : i = l.length := by omega
        subst hil
        rw [List.take_length] at *
        simp (maxSteps := 2000000) only [↓vP0, vQ0, vT0, simprocAttr]
        refine exit_of [3] (.int .i64 0) (rEncM (encAll e (mv b l))) ⟨rfl, rfl⟩ ?_ ?_ rfl ?_ ?_
        all_goals simp [ren, rens, sg, sig, okIn, okIns, exK, leK, leF, leV, matK, objM, renO, roSame, lh, born, AObj.born, AObj.live, injOk, kindOf, rens_ints, okIns_ints, List.range, List.range.loop, mrg, mset, rEncL, rEncM, rEncC_rens, rEncC_okIns, rEncC_inj]
end Go.Proofs.Ytbfefpkhalegmaa

set_option linter.unusedVariables false
set_option linter.unusedSimpArgs false
namespace Go.Proofs.Ytbfefpkhalegmaa
open Go
set_option maxHeartbeats 4000000
set_option maxRecDepth 20000

/-- The events of r digits of an id, behind p. -/
def idEvs (id : Nat) : Nat → Nat → List (Nat × Int)
  | 0, p => []
  | r + 1, p => (p - 1, dig id r) :: idEvs id r (2 * p + id / 2 ^ r % 2)
theorem idEvs_ok (id : Nat) : ∀ (r p : Nat), 1 ≤ p → ∀ x ∈ idEvs id r p, x.1 + 2 ≤ 2 ^ (r - 1) * (p + 1) ∧ KdOk x.2
  | 0, p, _, x, hx => by simp [idEvs] at hx
  | r + 1, p, hp, x, hx => by
    rcases List.mem_cons.1 hx with rfl | hx
    · refine ⟨?_, by simp only [dig, KdOk]; omega⟩
      have h1 : 1 ≤ 2 ^ r := Nat.one_le_two_pow
      have h2 : 1 * (p + 1) ≤ 2 ^ r * (p + 1) := Nat.mul_le_mul_right _ h1
      simp only [Nat.add_sub_cancel]
      omega
    · obtain ⟨h1, h2⟩ := idEvs_ok id r (2 * p + id / 2 ^ r % 2) (by omega) x hx
      refine ⟨?_, h2⟩
      cases r with
      | zero => simp [idEvs] at hx
      | succ r =>
        simp only [Nat.add_sub_cancel] at h1 ⊢
        have h3 : 2 * p + id / 2 ^ (r + 1) % 2 + 1 ≤ 2 * (p + 1) := by omega
        have h4 : 2 ^ r * (2 * p + id / 2 ^ (r + 1) % 2 + 1) ≤ 2 ^ r * (2 * (p + 1)) := Nat.mul_le_mul_left _ h3
        have h5 : 2 ^ (r + 1) * (p + 1) = 2 ^ r * (2 * (p + 1)) := by rw [Nat.pow_succ, Nat.mul_assoc]
        omega
theorem idEvs_len (id : Nat) : ∀ (r p : Nat), (idEvs id r p).length = r
  | 0, p => rfl
  | r + 1, p => by simp [idEvs, idEvs_len id r]
/-- Where r digits behind p lead. -/
def idFin (id : Nat) : Nat → Nat → Nat
  | 0, p => p
  | r + 1, p => idFin id r (2 * p + id / 2 ^ r % 2)
theorem idFin_eq (id : Nat) : ∀ (r p : Nat), idFin id r p = 2 ^ r * p + id % 2 ^ r
  | 0, p => by simp [idFin, Nat.mod_one]
  | r + 1, p => by
    rw [idFin, idFin_eq id r]
    have h1 : id % 2 ^ (r + 1) = 2 ^ r * (id / 2 ^ r % 2) + id % 2 ^ r := by
      rw [Nat.pow_succ, Nat.mod_mul]; omega
    rw [h1, Nat.mul_add, Nat.pow_succ]
    have : 2 ^ r * (2 * p) = 2 ^ r * 2 * p := by rw [Nat.mul_assoc]
    omega
def idRun (base : Nat) : Nat → Nat → Dec → Int × Nat × Dec
  | 0, p, d => (0, p, d)
  | r + 1, p, d => if d.err (base + (p - 1)) ≠ 0 then (d.err (base + (p - 1)), 0, d.after (base + (p - 1))) else idRun base r (2 * p + (d.got (base + (p - 1))).toNat) (d.after (base + (p - 1)))
theorem idRun_feeds (base id : Nat) (d' : Dec) : ∀ (r p : Nat) (d : Dec), Feeds d (mv base (idEvs id r p)) d' → idRun base r p d = (0, idFin id r p, d')
  | 0, p, d, h => by simp [idEvs, mv, Feeds] at h; simp [idRun, idFin, h]
  | r + 1, p, d, h => by
    obtain ⟨h1, h2, h3⟩ := feeds_get (show Feeds d ((base + (p - 1), dig id r) :: mv base (idEvs id r (2 * p + id / 2 ^ r % 2))) d' from h)
    rw [idRun, h1, h2, if_neg (by simp), idFin]
    have : (dig id r).toNat = id / 2 ^ r % 2 := by simp only [dig]; omega
    rw [this]
    exact idRun_feeds base id d' r _ _ h3

def idB (k id : Int) : Bool := decide (0 ≤ k) && (decide (k ≤ 10) && (decide (0 ≤ id) && decide (id < 2 ^ k.toNat)))
theorem idB_iff (k id : Int) : idB k id = true ↔ 0 ≤ k ∧ k ≤ 10 ∧ 0 ≤ id ∧ id < 2 ^ k.toNat := by simp [idB]
def ipErr (k id base : Int) (n : Nat) : Int := if idB k id = false then 2 else if base < 0 ∨ (n : Int) - (2 ^ k.toNat - 1) < base then 2 else 0
def ipEnc (e : Enc) (k id base : Int) : Enc := if ipErr k id base e.st.length = 0 then encAll e (mv base.toNat (idEvs id.toNat k.toNat 1)) else e
theorem ip_bad {e : Enc} {k id base a : Int} (h : ipErr k id base e.st.length = a) (h0 : a ≠ 0) : ipEnc e k id base = e := by rw [ipEnc, if_neg (by rw [h]; exact h0)]
theorem pow10 {k : Nat} (h : k ≤ 10) : 1 ≤ 2 ^ k ∧ 2 ^ k ≤ 1024 := ⟨Nat.one_le_two_pow, Nat.le_trans (Nat.pow_le_pow_right (n := 2) (by decide) h) (by decide)⟩
theorem ip_ok {e : Enc} {k id base : Int} (h : ipErr k id base e.st.length = 0) : (0 ≤ k ∧ k ≤ 10 ∧ 0 ≤ id ∧ id < 2 ^ k.toNat) ∧ 0 ≤ base ∧ base + 2 ^ k.toNat ≤ e.st.length + 1 ∧ EvsOk e.st.length (mv base.toNat (idEvs id.toNat k.toNat 1)) := by
  have hb : idB k id = true := by
    cases hh : idB k id with
    | true => rfl
    | false => rw [ipErr, if_pos hh] at h; omega
  have hi := (idB_iff k id).1 hb
  have hf : ¬ (base < 0 ∨ (e.st.length : Int) - (2 ^ k.toNat - 1) < base) := by
    intro hh
    rw [ipErr, if_neg (by rw [hb]; simp), if_pos hh] at h; omega
  refine ⟨hi, by omega, by omega, fun x hx => ?_⟩
  obtain ⟨y, hy, rfl⟩ := List.mem_map.1 hx
  obtain ⟨h1, h2⟩ := idEvs_ok id.toNat k.toNat 1 (by omega) y hy
  refine ⟨?_, h2⟩
  have hk : k.toNat = 0 ∨ ∃ j, k.toNat = j + 1 := by cases k.toNat <;> simp
  rcases hk with hk | ⟨j, hk⟩
  · rw [hk] at hy; simp [idEvs] at hy
  · rw [hk] at h1 hf
    simp only [Nat.add_sub_cancel] at h1
    have e1 : (2 : Int) ^ (j + 1) = ((2 ^ j * 2 : Nat) : Int) := by rw [← Nat.pow_succ]; simp
    rw [e1] at hf
    simp only
    omega
theorem ipEnc_ok {e : Enc} (he : e.Ok) {k id base : Int} : (ipEnc e k id base).Ok ∧ (ipEnc e k id base).kd = e.kd ∧ (ipEnc e k id base).st.length = e.st.length ∧ (ipEnc e k id base).out.length ≤ e.out.length + 200 := by
  unfold ipEnc
  split
  · rename_i h
    obtain ⟨h0, _, _, h1⟩ := ip_ok h
    obtain ⟨a, b, c, d⟩ := encAll_ok _ e he h1
    rw [mv_len, idEvs_len] at d
    exact ⟨a, b, c, by omega⟩
  · exact ⟨he, rfl, rfl, by omega⟩
end Go.Proofs.Ytbfefpkhalegmaa

set_option linter.unusedVariables false
set_option linter.unusedSimpArgs false
namespace Go.Proofs.Ytbfefpkhalegmaa
open Go
set_option maxHeartbeats 4000000
set_option maxRecDepth 20000

theorem shl1 (k : Int) (h0 : 0 ≤ k) (h1 : k ≤ 10) : IntKind.i64.wrap (1 * 2 ^ (if k.toNat ≤ 64 then k.toNat else 64)) = 2 ^ k.toNat := by
  rw [if_pos (by omega), Int.one_mul]
  obtain ⟨a, b⟩ := pow10 (k := k.toNat) (by omega)
  have e : (2 : Int) ^ k.toNat = ((2 ^ k.toNat : Nat) : Int) := by simp
  rw [e]
  exact wr64 _ (by omega) (by omega)
theorem c_isId (k id : Int) : LCall Try.prog 115 [.int .i64 k, .int .i64 id] [] fun r L => r = .bool (idB k id) ∧ L = [] := by
  refine lcall_of_vc tyok Try.func115 rfl (by rfl) Try.results115 Try.ntmps115 ?_; intro C hD
  by_cases k0 : 0 ≤ k
  · by_cases k1 : k ≤ 10
    · by_cases i0 : 0 ≤ id
      · simp (maxSteps := 2000000) only [↓vP0, vQ0, vT0, simprocAttr, decide_eq_true k0, decide_eq_true k1, decide_eq_true i0]
        refine chk_intro (by omega) ?_
        simp (maxSteps := 2000000) only [↓vP0, vQ0, vT0, simprocAttr, shl1 k k0 k1, decide_eq_true i0]
        exact exit_keep (L1 := []) ⟨by simp [idB, k0, k1, i0], rfl⟩ trivial trivial
      · simp (maxSteps := 2000000) only [↓vP0, vQ0, vT0, simprocAttr, decide_eq_true k0, decide_eq_true k1, decide_eq_false i0]
        exact exit_keep (L1 := []) ⟨by simp [idB, i0], rfl⟩ trivial trivial
    · simp (maxSteps := 2000000) only [↓vP0, vQ0, vT0, simprocAttr, decide_eq_true k0, decide_eq_false k1]
      exact exit_keep (L1 := []) ⟨by simp [idB, k1], rfl⟩ trivial trivial
  · simp (maxSteps := 2000000) only [↓vP0, vQ0, vT0, simprocAttr, decide_eq_false k0]
    exact exit_keep (L1 := []) ⟨by simp [idB, k0], rfl⟩ trivial trivial
theorem dig_bd (I r : Nat) : (0 : Int) ≤ dig I r ∧ dig I r ≤ 1 ∧ dig I r = ((I / 2 ^ r % 2 : Nat) : Int) := ⟨by simp only [dig]; omega, by simp only [dig]; omega, rfl⟩
theorem idEvs_succ (id r p : Nat) : idEvs id (r + 1) p = (p - 1, dig id r) :: idEvs id r (2 * p + id / 2 ^ r % 2) := rfl
theorem p_next {p a r : Nat} {id : Nat} (hp : 1 ≤ p) (h : p * 2 ^ (r + 1) < 2 * a) : 1 ≤ 2 * p + id / 2 ^ r % 2 ∧ 2 * p + id / 2 ^ r % 2 ≤ 2 * p + 1 := by omega

/-- The loop's digits: what has come and what is left. -/
structure IdSt (K I : Nat) (all : List (Nat × Int)) (r p : Nat) (l : List (Nat × Int)) : Prop where
  le : r ≤ K
  pos : 1 ≤ p
  bd : p + 1 ≤ 2 ^ (K - r + 1)
  run : l ++ idEvs I r p = all
theorem IdSt.step {K I : Nat} {all : List (Nat × Int)} {r p : Nat} {l : List (Nat × Int)} (h : IdSt K I all (r + 1) p l) : IdSt K I all r (2 * p + I / 2 ^ r % 2) (l ++ [(p - 1, dig I r)]) := by
  refine ⟨by have := h.le; omega, by have := h.pos; omega, ?_, ?_⟩
  · have h1 := h.bd
    have h2 := h.le
    have e : K - r + 1 = (K - (r + 1) + 1) + 1 := by omega
    rw [e, Nat.pow_succ]; omega
  · rw [List.append_assoc]; exact h.run
theorem c_rPutId (e : Enc) (he : e.Ok) (base : Int) (hbase : I6 base) (k id : Int) (hl : e.st.length ≤ 8192) (hout : e.out.length ≤ 1000000000) :
    LCall Try.prog 55 [.ptr 0 0, .int .i64 base, .int .i64 k, .int .i64 id] (rEncL e) fun r L => r = .int .i64 (ipErr k id base e.st.length) ∧ L = rEncM (ipEnc e k id base) := by
  refine lcall_of_vc tyok Try.func55 rfl (by rfl) Try.results55 Try.ntmps55 ?_; intro C hD
  simp only [rEncL] at hD ⊢
  simp (maxSteps := 2000000) only [↓vP0, vQ0, vT0, simprocAttr]
  refine drawK_of tyok rfl (usL []) (fun i => .below 0) (by kernel_rfl) ?_
  simp (maxSteps := 2000000) only [↓vP0, vQ0, vT0, simprocAttr]
  refine callK_pure (c_isId k id) rfl rfl ?_
  cases hb : idB k id with
  | false =>
    have f1 : ipErr k id base e.st.length = 2 := by rw [ipErr, if_pos hb]
    rw [ip_bad f1 (by omega), f1]
    simp (maxSteps := 2000000) only [↓vP0, vQ0, vT0, simprocAttr]
    refine exit_of [2] (.int .i64 2) (rEncM e) ⟨rfl, rfl⟩ ?_ ?_ rfl ?_ ?_
    all_goals simp [ren, rens, sg, sig, okIn, okIns, exK, leK, leF, leV, matK, objM, renO, roSame, lh, born, AObj.born, AObj.live, injOk, kindOf, rens_ints, okIns_ints, List.range, List.range.loop, mrg, mset, rEncL, rEncM, rEncC_rens, rEncC_okIns, rEncC_inj]
  | true =>
    obtain ⟨k0, k1, i0, i1⟩ := (idB_iff k id).1 hb
    obtain ⟨q0, q1⟩ := pow10 (k := k.toNat) (by omega)
    have hq : (2 : Int) ^ k.toNat = ((2 ^ k.toNat : Nat) : Int) := by simp
    have ew : IntKind.i64.wrap (2 ^ k.toNat - 1) = 2 ^ k.toNat - 1 := wr64 _ (by omega) (by omega)
    simp (maxSteps := 2000000) only [↓vP0, vQ0, vT0, simprocAttr]
    refine callK_det (c_rModel e hl) [0, 1, 2] ?_ ?_ ?_ rfl (by simp [rEncR, rEncC_rens, rEncC_okIns, rEncC_inj]) ?_
    · simp [ren, rens, sg, sig, okIn, okIns, exK, leK, leF, leV, matK, objM, renO, roSame, lh, born, AObj.born, AObj.live, injOk, kindOf, rens_ints, okIns_ints, List.range, List.range.loop, mrg, mset, rEncR, rEncC_rens, rEncC_okIns, rEncC_inj]
    · simp [ren, rens, sg, sig, okIn, okIns, exK, leK, leF, leV, matK, objM, renO, roSame, lh, born, AObj.born, AObj.live, injOk, kindOf, rens_ints, okIns_ints, List.range, List.range.loop, mrg, mset, rEncR, rEncC_rens, rEncC_okIns, rEncC_inj]
    · simp [ren, rens, sg, sig, okIn, okIns, exK, leK, leF, leV, matK, objM, renO, roSame, lh, born, AObj.born, AObj.live, injOk, kindOf, rens_ints, okIns_ints, List.range, List.range.loop, mrg, mset, rEncR, rEncC_rens, rEncC_okIns, rEncC_inj]
    simp only [rEncR]
    simp (maxSteps := 2000000) only [↓vP0, vQ0, vT0, simprocAttr, rEncC_rens]
    refine chk_intro (by omega) ?_
    simp (maxSteps := 2000000) only [↓vP0, vQ0, vT0, simprocAttr, shl1 k k0 k1, ew]
    refine callK_pure (c_room e.st.length base (2 ^ k.toNat - 1) (by omega) (by omega) hbase) rfl rfl ?_
    by_cases hf : base < 0 ∨ (e.st.length : Int) - (2 ^ k.toNat - 1) < base
    · have f1 : ipErr k id base e.st.length = 2 := by rw [ipErr, if_neg (by rw [hb]; simp), if_pos hf]
      have e0 : decide (0 ≤ base ∧ 2 ^ k.toNat - 1 ≤ (e.st.length : Int) - base) = false := decide_eq_false (by omega)
      rw [ip_bad f1 (by omega), f1]
      simp (maxSteps := 2000000) only [↓vP0, vQ0, vT0, simprocAttr, e0]
      refine exit_of [2] (.int .i64 2) (rEncM e) ⟨rfl, rfl⟩ ?_ ?_ rfl ?_ ?_
      all_goals simp [ren, rens, sg, sig, okIn, okIns, exK, leK, leF, leV, matK, objM, renO, roSame, lh, born, AObj.born, AObj.live, injOk, kindOf, rens_ints, okIns_ints, List.range, List.range.loop, mrg, mset, rEncL, rEncM, rEncC_rens, rEncC_okIns, rEncC_inj]
    · have f1 : ipErr k id base e.st.length = 0 := by rw [ipErr, if_neg (by rw [hb]; simp), if_neg hf]
      have e0 : decide (0 ≤ base ∧ 2 ^ k.toNat - 1 ≤ (e.st.length : Int) - base) = true := decide_eq_true (by omega)
      obtain ⟨_, h2, h3, h4⟩ := ip_ok f1
      obtain ⟨b, rfl⟩ : ∃ b : Nat, base = (b : Int) := ⟨_, (Int.toNat_of_nonneg h2).symm⟩
      obtain ⟨I, rfl⟩ : ∃ I : Nat, id = (I : Int) := ⟨_, (Int.toNat_of_nonneg i0).symm⟩
      obtain ⟨K, rfl⟩ : ∃ K : Nat, k = (K : Int) := ⟨_, (Int.toNat_of_nonneg k0).symm⟩
      rw [ipEnc, if_pos f1, f1]
      simp only [Int.toNat_natCast] at *
      have ek : IntKind.i64.wrap ((K : Int) - 1) = (K : Int) - 1 := wr64 _ (by omega) (by omega)
      have hall := idEvs_len I K 1
      generalize hA : idEvs I K 1 = all at *
      simp (maxSteps := 2000000) only [↓vP0, vQ0, vT0, simprocAttr, e0, ek]
      refine loopK_ren tyok hD (α := Nat × Nat × List (Nat × Int)) (fun s => IdSt K I all s.1 s.2.1 s.2.2) (fun s => s.1)
        (fun s => [.ptr 0 0, .int .i64 b, .junk, .int .i64 I, .junk, .junk, .junk, .junk, .junk, .int .i64 s.2.1, .int .i64 ((s.1 : Int) - 1), .junk, .junk, .junk, .junk, .junk, .junk, .junk, .junk, .junk, .junk, .junk, .junk, .junk, .junk, .junk, .junk, .junk, .junk, .junk, .junk, .junk, .junk, .junk, .junk, .junk, .junk, .junk, .junk, .junk, .junk, .junk, .junk, .junk, .junk, .junk, .junk, .junk, .junk])
        (fun s => [.own (rEncC (encAll e (mv b s.2.2)) 1 3) 132, .own (ints .i64 (encAll e (mv b s.2.2)).st) 3, .dead, .own (ints .u8 (encAll e (mv b s.2.2)).out) 5]) (K, 1, [])
        ⟨Nat.le_refl _, Nat.le_refl _, by simp only [Nat.sub_self, Nat.zero_add]; omega, by simpa using hA⟩ ⟨[2], ?_⟩ ?_
      · simp only [leR, encAll, mv, List.map_nil]
        simp [ren, rens, sg, sig, okIn, okIns, exK, leK, leF, leV, matK, objM, renO, roSame, lh, born, AObj.born, AObj.live, injOk, kindOf, rens_ints, okIns_ints, List.range, List.range.loop, mrg, mset, leF, leV, leK, rEncC_rens, rEncC_okIns, rEncC_inj]
      rintro ⟨r, p, l⟩ hs0
      have hs : IdSt K I all r p l := hs0
      have hsub : ∀ x ∈ l, x ∈ all := fun x hx => by rw [← hs.run]; exact List.mem_append_left _ hx
      obtain ⟨k1', k2', k3', k4'⟩ := encAll_ok (mv b l) e he (fun x hx => by
        obtain ⟨y, hy, rfl⟩ := List.mem_map.1 hx
        exact h4 _ (List.mem_map.2 ⟨y, hsub y hy, rfl⟩))
      have hll : l.length ≤ K := by have := congrArg List.length hs.run; rw [List.length_append] at this; omega
      rw [mv_len] at k4'
      have hpb : p ≤ 4096 := by
        have h1 := hs.bd
        have : 2 ^ (K - r + 1) ≤ 2 ^ 11 := Nat.pow_le_pow_right (by decide) (by omega)
        have e11 : (2 : Nat) ^ 11 = 2048 := by decide
        omega
      have hpp := hs.pos
      simp (maxSteps := 2000000) only [↓vP0, vQ0, vT0, simprocAttr]
      cases r with
      | succ r =>
        have hst := hs.step
        have hd := dig_at I r (by omega) (by have := hs.le; omega)
        rw [Int.toNat_natCast] at hd
        have ewp : IntKind.i64.wrap (IntKind.i64.wrap ((b : Int) + p) - 1) = ((b + (p - 1) : Nat) : Int) := by
          have w2 : IntKind.i64.wrap ((b : Int) + p) = (b : Int) + p := wr64 _ (by omega) (by omega)
          rw [w2, wr64 _ (by omega) (by omega)]; omega
        have hdb : KdOk (dig I r) := by simp only [dig, KdOk]; omega
        have hctx : b + (p - 1) < e.st.length := by
          have hin : (p - 1, dig I r) ∈ all := by rw [← hs.run]; exact List.mem_append_right _ (List.mem_cons_self ..)
          exact (h4 _ (List.mem_map.2 ⟨_, hin, rfl⟩)).1
        have hnx : encAll e (mv b (l ++ [(p - 1, dig I r)])) = (encAll e (mv b l)).put (b + (p - 1)) (dig I r) := by rw [mv_app, encAll_app]; rfl
        generalize hE : encAll e (mv b l) = E at *
        have e1 : (((r + 1 : Nat) : Int) - 1) = (r : Int) := by omega
        rw [e1]
        simp (maxSteps := 2000000) only [↓vP0, vQ0, vT0, simprocAttr, decide_eq_true (show (0 : Int) ≤ (r : Int) by omega)]
        refine chk_intro (by omega) ?_
        simp (maxSteps := 2000000) only [↓vP0, vQ0, vT0, simprocAttr, hd, ewp]
        refine callK_det (c_rPut E k1' (b + (p - 1)) (by omega) (dig I r) hdb (by omega)) [0, 1, 3] ?_ ?_ ?_ rfl (by simp [rEncL, rEncM, rEncC_rens, rEncC_okIns, rEncC_inj]) ?_
        · simp [ren, rens, sg, sig, okIn, okIns, exK, leK, leF, leV, matK, objM, renO, roSame, lh, born, AObj.born, AObj.live, injOk, kindOf, rens_ints, okIns_ints, List.range, List.range.loop, mrg, mset, rEncL, rEncM, rEncC_rens, rEncC_okIns, rEncC_inj]
        · simp [ren, rens, sg, sig, okIn, okIns, exK, leK, leF, leV, matK, objM, renO, roSame, lh, born, AObj.born, AObj.live, injOk, kindOf, rens_ints, okIns_ints, List.range, List.range.loop, mrg, mset, rEncL, rEncM, rEncC_rens, rEncC_okIns, rEncC_inj]
        · simp [ren, rens, sg, sig, okIn, okIns, exK, leK, leF, leV, matK, objM, renO, roSame, lh, born, AObj.born, AObj.live, injOk, kindOf, rens_ints, okIns_ints, List.range, List.range.loop, mrg, mset, rEncL, rEncM, rEncC_rens, rEncC_okIns, rEncC_inj]
        simp only [rEncL, rEncM]
        simp (maxSteps := 2000000) only [↓vP0, vQ0, vT0, simprocAttr, rEncC_rens]
        have ep : IntKind.i64.wrap (IntKind.i64.wrap (2 * (p : Int)) + dig I r) = ((2 * p + I / 2 ^ r % 2 : Nat) : Int) := by
          obtain ⟨g0, g1, g2⟩ := dig_bd I r
          have w2 : IntKind.i64.wrap (2 * (p : Int)) = 2 * (p : Int) := wr64 _ (by omega) (by omega)
          rw [w2, wr64 _ (by omega) (by omega)]
          omega
        have hrl := hs.le
        have er : IntKind.i64.wrap ((r : Int) - 1) = (r : Int) - 1 := wr64 _ (by omega) (by omega)
        rw [ep, er]
        refine ⟨(r, 2 * p + I / 2 ^ r % 2, l ++ [(p - 1, dig I r)]), hst, by simp only; omega, [4], ?_⟩
        simp only [leR, hnx]
        simp [ren, rens, sg, sig, okIn, okIns, exK, leK, leF, leV, matK, objM, renO, roSame, lh, born, AObj.born, AObj.live, injOk, kindOf, rens_ints, okIns_ints, List.range, List.range.loop, mrg, mset, leF, leV, leK, rEncC_rens, rEncC_okIns, rEncC_inj]
      | zero =>
        have hfin : l = all := by have := hs.run; simpa [idEvs] using this
        subst hfin
        simp (maxSteps := 2000000) only [↓vP0, vQ0, vT0, simprocAttr]
        refine exit_of [3] (.int .i64 0) (rEncM (encAll e (mv b l))) ⟨rfl, rfl⟩ ?_ ?_ rfl ?_ ?_
        all_goals simp [ren, rens, sg, sig, okIn, okIns, exK, leK, leF, leV, matK, objM, renO, roSame, lh, born, AObj.born, AObj.live, injOk, kindOf, rens_ints, okIns_ints, List.range, List.range.loop, mrg, mset, rEncL, rEncM, rEncC_rens, rEncC_okIns, rEncC_inj]
end Go.Proofs.Ytbfefpkhalegmaa

set_option linter.unusedVariables false
set_option linter.unusedSimpArgs false
namespace Go.Proofs.Ytbfefpkhalegmaa
open Go
set_option maxHeartbeats 4000000
set_option maxRecDepth 20000

theorem shl1' (k : Int) (h0 : 0 ≤ k) (h1 : k ≤ 10) : IntKind.i64.wrap (2 ^ (if k.toNat ≤ 64 then k.toNat else 64)) = 2 ^ k.toNat := by
  have := shl1 k h0 h1
  rwa [Int.one_mul] at this
theorem c_pPutId (e : Enc) (he : e.Ok) (base : Int) (hbase : I6 base) (k id : Int) (hl : e.st.length ≤ 8192) (hout : e.out.length ≤ 1000000000) :
    LCall Try.prog 54 [.ptr 0 0, .int .i64 base, .int .i64 k, .int .i64 id] (pEncL e) fun r L => r = .int .i64 (ipErr k id base e.st.length) ∧ L = pEncM (ipEnc e k id base) := by
  refine lcall_of_vcB tyok Try.func54 rfl (by rfl) Try.results54 Try.ntmps54 ?_; intro C hD
  simp only [pEncL] at hD ⊢
  simp (maxSteps := 2000000) only [↓vP0, vQ0, vT0, simprocAttr]
  refine callK_read (c_pPutBad e) [0, 1, 2] ?_ ?_ ?_ rfl ?_
  · simp [ren, rens, sg, sig, okIn, okIns, exK, leK, leF, leV, matK, objM, renO, roSame, lh, born, AObj.born, AObj.live, injOk, kindOf, rens_ints, okIns_ints, List.range, List.range.loop, mrg, mset, pEncR, pEncC_rens, pEncC_okIns, pEncC_inj]
  · simp [ren, rens, sg, sig, okIn, okIns, exK, leK, leF, leV, matK, objM, renO, roSame, lh, born, AObj.born, AObj.live, injOk, kindOf, rens_ints, okIns_ints, List.range, List.range.loop, mrg, mset, pEncR, pEncC_rens, pEncC_okIns, pEncC_inj]
  · simp [ren, rens, sg, sig, okIn, okIns, exK, leK, leF, leV, matK, objM, renO, roSame, lh, born, AObj.born, AObj.live, injOk, kindOf, rens_ints, okIns_ints, List.range, List.range.loop, mrg, mset, pEncR, pEncC_rens, pEncC_okIns, pEncC_inj]
  simp (maxSteps := 2000000) only [↓vP0, vQ0, vT0, simprocAttr]
  cases hb : idB k id with
  | false =>
    have f1 : ipErr k id base e.st.length = 2 := by rw [ipErr, if_pos hb]
    rw [ip_bad f1 (by omega), f1]
    by_cases k0 : 0 ≤ k
    · by_cases k1 : k ≤ 10
      · by_cases i0 : 0 ≤ id
        · have i1 : 2 ^ k.toNat ≤ id := by
            refine Int.not_lt.1 fun hh => ?_
            rw [(idB_iff k id).2 ⟨k0, k1, i0, hh⟩] at hb
            exact absurd hb (by simp)
          simp (maxSteps := 2000000) only [↓vP0, vQ0, vT0, simprocAttr, decide_eq_false (show ¬ k < 0 by omega), decide_eq_false (show ¬ 10 < k by omega), decide_eq_false (show ¬ id < 0 by omega)]
          refine chk_intro (by omega) ?_
          simp (maxSteps := 2000000) only [↓vP0, vQ0, vT0, simprocAttr, shl1 k k0 k1, decide_eq_true i1]
          refine exitB_P (exit_of [2] (.int .i64 2) (pEncM e) ⟨rfl, rfl⟩ ?_ ?_ rfl ?_ ?_)
          all_goals simp [ren, rens, sg, sig, okIn, okIns, exK, leK, leF, leV, matK, objM, renO, roSame, lh, born, AObj.born, AObj.live, injOk, kindOf, rens_ints, okIns_ints, List.range, List.range.loop, mrg, mset, pEncL, pEncM, pEncC_rens, pEncC_okIns, pEncC_inj]
        · simp (maxSteps := 2000000) only [↓vP0, vQ0, vT0, simprocAttr, decide_eq_false (show ¬ k < 0 by omega), decide_eq_false (show ¬ 10 < k by omega), decide_eq_true (show id < 0 by omega)]
          refine exitB_P (exit_of [2] (.int .i64 2) (pEncM e) ⟨rfl, rfl⟩ ?_ ?_ rfl ?_ ?_)
          all_goals simp [ren, rens, sg, sig, okIn, okIns, exK, leK, leF, leV, matK, objM, renO, roSame, lh, born, AObj.born, AObj.live, injOk, kindOf, rens_ints, okIns_ints, List.range, List.range.loop, mrg, mset, pEncL, pEncM, pEncC_rens, pEncC_okIns, pEncC_inj]
      · simp (maxSteps := 2000000) only [↓vP0, vQ0, vT0, simprocAttr, decide_eq_false (show ¬ k < 0 by omega), decide_eq_true (show 10 < k by omega)]
        refine exitB_P (exit_of [2] (.int .i64 2) (pEncM e) ⟨rfl, rfl⟩ ?_ ?_ rfl ?_ ?_)
        all_goals simp [ren, rens, sg, sig, okIn, okIns, exK, leK, leF, leV, matK, objM, renO, roSame, lh, born, AObj.born, AObj.live, injOk, kindOf, rens_ints, okIns_ints, List.range, List.range.loop, mrg, mset, pEncL, pEncM, pEncC_rens, pEncC_okIns, pEncC_inj]
    · simp (maxSteps := 2000000) only [↓vP0, vQ0, vT0, simprocAttr, decide_eq_true (show k < 0 by omega)]
      refine exitB_P (exit_of [2] (.int .i64 2) (pEncM e) ⟨rfl, rfl⟩ ?_ ?_ rfl ?_ ?_)
      all_goals simp [ren, rens, sg, sig, okIn, okIns, exK, leK, leF, leV, matK, objM, renO, roSame, lh, born, AObj.born, AObj.live, injOk, kindOf, rens_ints, okIns_ints, List.range, List.range.loop, mrg, mset, pEncL, pEncM, pEncC_rens, pEncC_okIns, pEncC_inj]
  | true =>
    obtain ⟨k0, k1, i0, i1⟩ := (idB_iff k id).1 hb
    obtain ⟨q0, q1⟩ := pow10 (k := k.toNat) (by omega)
    have hq : (2 : Int) ^ k.toNat = ((2 ^ k.toNat : Nat) : Int) := by simp
    have ew : IntKind.i64.wrap (2 ^ k.toNat - 1) = 2 ^ k.toNat - 1 := wr64 _ (by omega) (by omega)
    simp (maxSteps := 2000000) only [↓vP0, vQ0, vT0, simprocAttr, decide_eq_false (show ¬ k < 0 by omega), decide_eq_false (show ¬ 10 < k by omega), decide_eq_false (show ¬ id < 0 by omega)]
    refine chk_intro (by omega) ?_
    simp (maxSteps := 2000000) only [↓vP0, vQ0, vT0, simprocAttr, shl1 k k0 k1, decide_eq_false (show ¬ 2 ^ k.toNat ≤ id by omega)]
    refine drawK_of tyok rfl (usL []) (fun i => .below 0) (by kernel_rfl) ?_
    simp (maxSteps := 2000000) only [↓vP0, vQ0, vT0, simprocAttr]
    refine callK_det (c_pModel e hl) [0, 1, 2] ?_ ?_ ?_ rfl (by simp [pEncR, pEncC_rens, pEncC_okIns, pEncC_inj]) ?_
    · simp [ren, rens, sg, sig, okIn, okIns, exK, leK, leF, leV, matK, objM, renO, roSame, lh, born, AObj.born, AObj.live, injOk, kindOf, rens_ints, okIns_ints, List.range, List.range.loop, mrg, mset, pEncR, pEncC_rens, pEncC_okIns, pEncC_inj]
    · simp [ren, rens, sg, sig, okIn, okIns, exK, leK, leF, leV, matK, objM, renO, roSame, lh, born, AObj.born, AObj.live, injOk, kindOf, rens_ints, okIns_ints, List.range, List.range.loop, mrg, mset, pEncR, pEncC_rens, pEncC_okIns, pEncC_inj]
    · simp [ren, rens, sg, sig, okIn, okIns, exK, leK, leF, leV, matK, objM, renO, roSame, lh, born, AObj.born, AObj.live, injOk, kindOf, rens_ints, okIns_ints, List.range, List.range.loop, mrg, mset, pEncR, pEncC_rens, pEncC_okIns, pEncC_inj]
    simp only [pEncR]
    simp (maxSteps := 2000000) only [↓vP0, vQ0, vT0, simprocAttr, pEncC_rens]
    refine chk_intro (by omega) ?_
    simp (maxSteps := 2000000) only [↓vP0, vQ0, vT0, simprocAttr, shl1 k k0 k1, ew]
    refine callK_read (c_fits e.kd e.st hl base (2 ^ k.toNat - 1) (by omega) (by omega) hbase) [3] ?_ ?_ ?_ rfl ?_
    · simp [ren, rens, sg, sig, okIn, okIns, exK, leK, leF, leV, matK, objM, renO, roSame, lh, born, AObj.born, AObj.live, injOk, kindOf, rens_ints, okIns_ints, List.range, List.range.loop, mrg, mset]
    · simp [ren, rens, sg, sig, okIn, okIns, exK, leK, leF, leV, matK, objM, renO, roSame, lh, born, AObj.born, AObj.live, injOk, kindOf, rens_ints, okIns_ints, List.range, List.range.loop, mrg, mset]
    · simp [ren, rens, sg, sig, okIn, okIns, exK, leK, leF, leV, matK, objM, renO, roSame, lh, born, AObj.born, AObj.live, injOk, kindOf, rens_ints, okIns_ints, List.range, List.range.loop, mrg, mset]
    by_cases hf : base < 0 ∨ (e.st.length : Int) - (2 ^ k.toNat - 1) < base
    · have f1 : ipErr k id base e.st.length = 2 := by rw [ipErr, if_neg (by rw [hb]; simp), if_pos hf]
      rw [ip_bad f1 (by omega), f1, if_pos hf]
      simp (maxSteps := 2000000) only [↓vP0, vQ0, vT0, simprocAttr]
      refine exitB_P (exit_of [2] (.int .i64 2) (pEncM e) ⟨rfl, rfl⟩ ?_ ?_ rfl ?_ ?_)
      all_goals simp [ren, rens, sg, sig, okIn, okIns, exK, leK, leF, leV, matK, objM, renO, roSame, lh, born, AObj.born, AObj.live, injOk, kindOf, rens_ints, okIns_ints, List.range, List.range.loop, mrg, mset, pEncL, pEncM, pEncC_rens, pEncC_okIns, pEncC_inj]
    · have f1 : ipErr k id base e.st.length = 0 := by rw [ipErr, if_neg (by rw [hb]; simp), if_neg hf]
      obtain ⟨_, h2, h3, h4⟩ := ip_ok f1
      obtain ⟨b, rfl⟩ : ∃ b : Nat, base = (b : Int) := ⟨_, (Int.toNat_of_nonneg h2).symm⟩
      obtain ⟨I, rfl⟩ : ∃ I : Nat, id = (I : Int) := ⟨_, (Int.toNat_of_nonneg i0).symm⟩
      obtain ⟨K, rfl⟩ : ∃ K : Nat, k = (K : Int) := ⟨_, (Int.toNat_of_nonneg k0).symm⟩
      rw [ipEnc, if_pos f1, f1, if_neg hf]
      simp only [Int.toNat_natCast] at *
      have ek : IntKind.i64.wrap ((K : Int) - 1) = (K : Int) - 1 := wr64 _ (by omega) (by omega)
      have hall := idEvs_len I K 1
      generalize hA : idEvs I K 1 = all at *
      simp (maxSteps := 2000000) only [↓vP0, vQ0, vT0, simprocAttr, ek]
      refine loopK_b tyok hD (α := Nat × Nat × List (Nat × Int)) (fun s => IdSt K I all s.1 s.2.1 s.2.2) (fun s => s.1)
        (fun s => [.ptr 0 0, .int .i64 b, .int .i64 K, .int .i64 I, .junk, .junk, .junk, .junk, .junk, .junk, .int .i64 s.2.1, .slice 3 0 s.2.2.length, .int .i64 ((s.1 : Int) - 1), .junk, .junk, .junk, .junk, .junk, .junk, .junk, .junk, .junk, .junk, .junk, .junk, .junk, .junk, .junk, .junk, .junk, .junk, .junk, .junk, .junk, .junk, .junk, .junk, .junk, .junk, .junk, .junk, .junk, .junk, .junk, .junk, .junk, .junk, .junk, .junk, .junk, .junk, .junk, .junk, .junk, .junk, .junk, .junk, .junk, .junk, .junk, .junk, .junk, .junk, .junk, .junk, .junk, .junk, .junk, .junk])
        (fun s => [.own (pEncC e 1 2) 126, .own (ints .i64 e.st) 3, .own (ints .u8 e.out) 5, .own (evF (mv b s.2.2)) 100]) (K, 1, [])
        ⟨Nat.le_refl _, Nat.le_refl _, by simp only [Nat.sub_self, Nat.zero_add]; omega, by simpa using hA⟩ ⟨[(100, .fr 11 [])], [4], ?_⟩ ?_
      · simp (maxSteps := 2000000) only [↓vP0, vQ0, vT0, simprocAttr]
        simp only [leR, mv, List.map_nil]
        have hev0 : evF [] = [] := rfl
        simp [ren, rens, sg, sig, okIn, okIns, exK, leK, leF, leV, matK, objM, renO, roSame, lh, born, AObj.born, AObj.live, injOk, kindOf, rens_ints, okIns_ints, List.range, List.range.loop, mrg, mset, leF, leV, leK, pEncC_rens, pEncC_okIns, pEncC_inj, hev0]
      rintro ⟨r, p, l⟩ hs0
      have hs : IdSt K I all r p l := hs0
      have hll : l.length ≤ K := by have := congrArg List.length hs.run; rw [List.length_append] at this; omega
      have hpb : p ≤ 4096 := by
        have h1 := hs.bd
        have : 2 ^ (K - r + 1) ≤ 2 ^ 11 := Nat.pow_le_pow_right (by decide) (by omega)
        have e11 : (2 : Nat) ^ 11 = 2048 := by decide
        omega
      have hpp := hs.pos
      have hml := mv_len b l
      have hel := evF_len (mv b l)
      simp (maxSteps := 2000000) only [↓vP0, vQ0, vT0, simprocAttr]
      cases r with
      | succ r =>
        have hst := hs.step
        have hd := dig_at I r (by omega) (by have := hs.le; omega)
        rw [Int.toNat_natCast] at hd
        have ewp : IntKind.i64.wrap (IntKind.i64.wrap ((b : Int) + p) - 1) = ((b + (p - 1) : Nat) : Int) := by
          have w2 : IntKind.i64.wrap ((b : Int) + p) = (b : Int) + p := wr64 _ (by omega) (by omega)
          rw [w2, wr64 _ (by omega) (by omega)]; omega
        have e1 : (((r + 1 : Nat) : Int) - 1) = (r : Int) := by omega
        rw [e1]
        simp (maxSteps := 2000000) only [↓vP0, vQ0, vT0, simprocAttr, decide_eq_true (show (0 : Int) ≤ (r : Int) by omega)]
        refine chk_intro (by omega) ?_
        simp (maxSteps := 2000000) only [↓vP0, vQ0, vT0, simprocAttr, hd, ewp]
        refine chk_intro (by rw [hel, hml]; omega) ?_
        simp (maxSteps := 2000000) only [↓vP0, vQ0, vT0, simprocAttr]
        have ep : IntKind.i64.wrap (IntKind.i64.wrap (2 * (p : Int)) + dig I r) = ((2 * p + I / 2 ^ r % 2 : Nat) : Int) := by
          obtain ⟨g0, g1, g2⟩ := dig_bd I r
          have w2 : IntKind.i64.wrap (2 * (p : Int)) = 2 * (p : Int) := wr64 _ (by omega) (by omega)
          rw [w2, wr64 _ (by omega) (by omega)]
          omega
        have hrl := hs.le
        have er : IntKind.i64.wrap ((r : Int) - 1) = (r : Int) - 1 := wr64 _ (by omega) (by omega)
        rw [ep, er]
        rw [evF_snoc _ (b + (p - 1)) _ _ rfl]
        have hz : mv b l ++ [(b + (p - 1), dig I r)] = mv b (l ++ [(p - 1, dig I r)]) := by rw [mv_app, mv_one]
        rw [hz]
        refine ⟨(r, 2 * p + I / 2 ^ r % 2, l ++ [(p - 1, dig I r)]), hst, by simp only; omega, [], [5], ?_⟩
        simp (maxSteps := 2000000) only [↓vP0, vQ0, vT0, simprocAttr]
        simp only [leR]
        simp [ren, rens, sg, sig, okIn, okIns, exK, leK, leF, leV, matK, objM, renO, roSame, lh, born, AObj.born, AObj.live, injOk, kindOf, rens_ints, okIns_ints, List.range, List.range.loop, mrg, mset, leF, leV, leK, pEncC_rens, pEncC_okIns, pEncC_inj, evF_rens, evF_okIns]
      | zero =>
        have hfin : l = all := by have := hs.run; simpa [idEvs] using this
        subst hfin
        have c2 := c_put e he (mv b l) h4 (by omega) (by omega)
        generalize encAll e (mv b l) = E at *
        simp (maxSteps := 2000000) only [↓vP0, vQ0, vT0, simprocAttr]
        refine callK_det (c2) [0, 1, 2, 3] ?_ ?_ ?_ rfl (by simp [hml, pEncC_rens, pEncC_okIns, pEncC_inj, evF_rens, evF_okIns]) ?_
        · simp [ren, rens, sg, sig, okIn, okIns, exK, leK, leF, leV, matK, objM, renO, roSame, lh, born, AObj.born, AObj.live, injOk, kindOf, rens_ints, okIns_ints, List.range, List.range.loop, mrg, mset, hml, pEncC_rens, pEncC_okIns, pEncC_inj, evF_rens, evF_okIns]
        · simp [ren, rens, sg, sig, okIn, okIns, exK, leK, leF, leV, matK, objM, renO, roSame, lh, born, AObj.born, AObj.live, injOk, kindOf, rens_ints, okIns_ints, List.range, List.range.loop, mrg, mset, hml, pEncC_rens, pEncC_okIns, pEncC_inj, evF_rens, evF_okIns]
        · simp [ren, rens, sg, sig, okIn, okIns, exK, leK, leF, leV, matK, objM, renO, roSame, lh, born, AObj.born, AObj.live, injOk, kindOf, rens_ints, okIns_ints, List.range, List.range.loop, mrg, mset, hml, pEncC_rens, pEncC_okIns, pEncC_inj, evF_rens, evF_okIns]
        simp (maxSteps := 2000000) only [↓vP0, vQ0, vT0, simprocAttr, pEncC_rens]
        refine exitB_P (exit_of [4] (.int .i64 0) (pEncM E) ⟨rfl, rfl⟩ ?_ ?_ rfl ?_ ?_)
        all_goals simp [ren, rens, sg, sig, okIn, okIns, exK, leK, leF, leV, matK, objM, renO, roSame, lh, born, AObj.born, AObj.live, injOk, kindOf, rens_ints, okIns_ints, List.range, List.range.loop, mrg, mset, pEncL, pEncM, pEncC_rens, pEncC_okIns, pEncC_inj]
end Go.Proofs.Ytbfefpkhalegmaa
