/- Contracts: the program's Encode of events. -/
import Derived.Test.YtbfefpkhalegmaaF1
import Derived.KernelRfl
import Derived.Test.YtbfefpkhalegmaaF6

set_option linter.unusedVariables false
set_option linter.unusedSimpArgs false
namespace Go.Proofs.Ytbfefpkhalegmaa
open Go
set_option maxHeartbeats 4000000
set_option maxRecDepth 20000

theorem enc_take (e : Enc) (l : List (Nat × Int)) (i : Nat) (h : i < l.length) : encAll e (l.take (i + 1)) = (encAll e (l.take i)).put (l.getD i (0, 0)).1 (l.getD i (0, 0)).2 := by
  have : l.getD i (0, 0) = l[i] := by simp [List.getD_eq_getElem?_getD, List.getElem?_eq_getElem h]
  rw [List.take_succ_eq_append_getElem h, encAll_app, this]
  rfl
theorem c_pEncodeEv (kd : Int) (st : List Int) (hs : StsOk kd st) (l : List (Nat × Int)) (hl : EvsOk st.length l) (hn : l.length ≤ 100000) :
    LCall Try.prog 66 [.agg [.int .i64 kd, .slice 0 0 st.length], .slice 1 0 l.length] [.ro (ints .i64 st) 3, .ro (evF l) 100] fun r L =>
      r = .tup [.slice 2 0 (encAll (encNew kd st) l).fin.length, .agg [.int .i64 kd, .slice 3 0 st.length], .int .i64 0] ∧
      L = [.ro (ints .i64 st) 3, .ro (evF l) 100, .own (ints .u8 (encAll (encNew kd st) l).fin) 5, .own (ints .i64 (encAll (encNew kd st) l).st) 3] := by
  have hN := encNew_ok hs
  have hst0 : (encNew kd st).st = st := rfl
  have hks : ∀ i, (encAll (encNew kd st) (l.take i)).Ok ∧ (encAll (encNew kd st) (l.take i)).kd = kd ∧ (encAll (encNew kd st) (l.take i)).st.length = st.length ∧ (encAll (encNew kd st) (l.take i)).out.length ≤ 400000 := by
    intro i
    obtain ⟨a, b, c, d⟩ := encAll_ok (l.take i) _ hN (fun x hx => hl x (List.mem_of_mem_take hx))
    have h1 : (l.take i).length ≤ l.length := by simp; omega
    have h2 : (encNew kd st).out.length = 0 := rfl
    exact ⟨a, b, c, by omega⟩
  refine lcall_of_vc tyok Try.func66 rfl (by rfl) Try.results66 Try.ntmps66 ?_; intro C hD
  simp (maxSteps := 2000000) only [↓vP0, vQ0, vT0, simprocAttr]
  refine callK_det (c_pNewEncoder kd st hs) [0] ?_ ?_ ?_ rfl (by simp) ?_
  · simp [ren, rens, sg, sig, okIn, okIns, exK, leK, leF, leV, matK, objM, renO, roSame, lh, born, AObj.born, AObj.live, injOk, kindOf, rens_ints, okIns_ints, List.range, List.range.loop, mrg, mset]
  · simp [ren, rens, sg, sig, okIn, okIns, exK, leK, leF, leV, matK, objM, renO, roSame, lh, born, AObj.born, AObj.live, injOk, kindOf, rens_ints, okIns_ints, List.range, List.range.loop, mrg, mset]
  · simp [ren, rens, sg, sig, okIn, okIns, exK, leK, leF, leV, matK, objM, renO, roSame, lh, born, AObj.born, AObj.live, injOk, kindOf, rens_ints, okIns_ints, List.range, List.range.loop, mrg, mset]
  simp (maxSteps := 2000000) only [↓vP0, vQ0, vT0, simprocAttr, pEncC_rens, dN (show ¬ (100000 : Int) < l.length by omega)]
  refine loopK_ren tyok hD (α := Nat) (fun i => i ≤ l.length) (fun i => l.length - i) (fun i => [.junk, .junk, .junk, .junk, .junk, .ptr 3 0, .junk, .ptr 4 0, .junk, .junk, .junk, .junk, .junk, .junk, .junk, .junk, .junk, .junk, .junk, .junk, .junk, .junk, .junk, .junk, .slice 1 0 l.length, .int .i64 l.length, .int .i64 i, .junk, .junk, .junk, .junk, .junk, .junk, .junk, .junk, .junk, .junk, .junk, .junk, .junk, .junk, .junk, .junk, .junk, .junk, .junk, .junk, .junk])
    (fun i => [.ro (ints .i64 st) 3, .ro (evF l) 100, .own [.int .i64 kd, .slice 0 0 st.length] 60, .own [.int .i64 0, .nilslice] 60, .own (pEncC (encAll (encNew kd st) (l.take i)) 5 6) 126,
      .own (ints .i64 (encAll (encNew kd st) (l.take i)).st) 3, .own (ints .u8 (encAll (encNew kd st) (l.take i)).out) 5]) 0 (by omega) ⟨[2, 3, 4, 5, 6], ?_⟩ ?_
  · simp only [leR, List.take_zero, encAll]
    simp [ren, rens, sg, sig, okIn, okIns, exK, leK, leF, leV, matK, objM, renO, roSame, lh, born, AObj.born, AObj.live, injOk, kindOf, rens_ints, okIns_ints, List.range, List.range.loop, mrg, mset, leF, leV, leK, pEncC_rens, pEncC_okIns, pEncC_inj, evF_rens, evF_okIns, encNew, ints_nil]
  intro i hi
  obtain ⟨k1, k2, k3, k4⟩ := hks i
  simp (maxSteps := 2000000) only [↓vP0, vQ0, vT0, simprocAttr]
  (with_reducible first | refine condK_dec (fun h => ?_) (fun h => ?_) | refine condK_beq (fun h => ?_) (fun h => ?_) | refine condK_bne (fun h => ?_) (fun h => ?_) | refine condK_intro (fun h => ?_) (fun h => ?_))
  · have hil : i < l.length := by omega
    have g := evF_get l i hil
    have hx := hl (l.getD i (0, 0)) (by
      have : l.getD i (0, 0) = l[i] := by simp [List.getD_eq_getElem?_getD, List.getElem?_eq_getElem hil]
      rw [this]; exact List.getElem_mem hil)
    have hnx := enc_take (encNew kd st) l i hil
    generalize hE : encAll (encNew kd st) (l.take i) = E at *
    simp (maxSteps := 2000000) only [↓vP0, vQ0, vT0, simprocAttr]
    refine chk_intro (by omega) ?_
    simp (maxSteps := 2000000) only [↓vP0, vQ0, vT0, simprocAttr, g]
    refine chk_intro (by rw [evF_len]; omega) ?_
    simp (maxSteps := 2000000) only [↓vP0, vQ0, vT0, simprocAttr, g]
    refine callK_det (c_pPut E k1 (l.getD i (0, 0)).1 (by omega) (l.getD i (0, 0)).2 hx.2 (by omega)) [4, 5, 6] ?_ ?_ ?_ rfl (by simp [pEncL, pEncM, pEncC_rens, pEncC_okIns, pEncC_inj]) ?_
    · simp [ren, rens, sg, sig, okIn, okIns, exK, leK, leF, leV, matK, objM, renO, roSame, lh, born, AObj.born, AObj.live, injOk, kindOf, rens_ints, okIns_ints, List.range, List.range.loop, mrg, mset, pEncL, pEncM, pEncC_rens, pEncC_okIns, pEncC_inj]
    · simp [ren, rens, sg, sig, okIn, okIns, exK, leK, leF, leV, matK, objM, renO, roSame, lh, born, AObj.born, AObj.live, injOk, kindOf, rens_ints, okIns_ints, List.range, List.range.loop, mrg, mset, pEncL, pEncM, pEncC_rens, pEncC_okIns, pEncC_inj]
    · simp [ren, rens, sg, sig, okIn, okIns, exK, leK, leF, leV, matK, objM, renO, roSame, lh, born, AObj.born, AObj.live, injOk, kindOf, rens_ints, okIns_ints, List.range, List.range.loop, mrg, mset, pEncL, pEncM, pEncC_rens, pEncC_okIns, pEncC_inj]
    simp only [pEncL, pEncM]
    simp (maxSteps := 2000000) only [↓vP0, vQ0, vT0, simprocAttr, pEncC_rens]
    simp (disch := omega) only [wr64, wru64, wru8, tdv, tmd, fdv]
    refine ⟨i + 1, by omega, by omega, [2, 3, 4, 5, 8], ?_⟩
    simp only [leR, hnx, Int.natCast_add, Int.cast_ofNat_Int]
    simp [ren, rens, sg, sig, okIn, okIns, exK, leK, leF, leV, matK, objM, renO, roSame, lh, born, AObj.born, AObj.live, injOk, kindOf, rens_ints, okIns_ints, List.range, List.range.loop, mrg, mset, leF, leV, leK, pEncC_rens, pEncC_okIns, pEncC_inj, evF_rens, evF_okIns]
  · have hil : i = l.length := by omega
    subst hil
    have hall : encAll (encNew kd st) l = encAll (encNew kd st) (l.take l.length) := by rw [List.take_length]
    rw [hall]
    generalize hE : encAll (encNew kd st) (l.take l.length) = E at *
    have hpt : (pEncC E 5 6).take 2 = [.int .i64 kd, .slice 5 0 st.length] := by rw [← k2, ← k3]; simp [pEncC, ivC]
    have hpl : 2 ≤ (pEncC E 5 6).length := by simp [pEncC, ivC]
    simp (maxSteps := 2000000) only [↓vP0, vQ0, vT0, simprocAttr]
    refine drawK_of tyok rfl (usL [[], [], [], [], [], [], [1]]) (fun i => if i = 1 then .below 7 else .below 0) (by kernel_rfl) ?_
    simp (maxSteps := 2000000) only [↓vP0, vQ0, vT0, simprocAttr]
    refine callK_det (c_pEnd E k1 (by omega)) [4, 5, 6] ?_ ?_ ?_ rfl (by simp [pEncR, pEncC_rens, pEncC_okIns, pEncC_inj]) ?_
    · simp [ren, rens, sg, sig, okIn, okIns, exK, leK, leF, leV, matK, objM, renO, roSame, lh, born, AObj.born, AObj.live, injOk, kindOf, rens_ints, okIns_ints, List.range, List.range.loop, mrg, mset, pEncR, pEncC_rens, pEncC_okIns, pEncC_inj]
    · simp [ren, rens, sg, sig, okIn, okIns, exK, leK, leF, leV, matK, objM, renO, roSame, lh, born, AObj.born, AObj.live, injOk, kindOf, rens_ints, okIns_ints, List.range, List.range.loop, mrg, mset, pEncR, pEncC_rens, pEncC_okIns, pEncC_inj]
    · simp [ren, rens, sg, sig, okIn, okIns, exK, leK, leF, leV, matK, objM, renO, roSame, lh, born, AObj.born, AObj.live, injOk, kindOf, rens_ints, okIns_ints, List.range, List.range.loop, mrg, mset, pEncR, pEncC_rens, pEncC_okIns, pEncC_inj]
    simp only [pEncR]
    simp (maxSteps := 2000000) only [↓vP0, vQ0, vT0, simprocAttr, pEncC_rens]
    refine chk_intro hpl ?_
    simp (maxSteps := 2000000) only [↓vP0, vQ0, vT0, simprocAttr, hpt]
    refine exit_of [7, 5] (.tup [.slice 2 0 E.fin.length, .agg [.int .i64 kd, .slice 3 0 st.length], .int .i64 0]) ([.ro (ints .i64 st) 3, .ro (evF l) 100, .own (ints .u8 E.fin) 5, .own (ints .i64 E.st) 3]) ⟨rfl, rfl⟩ ?_ ?_ rfl ?_ ?_
    all_goals simp [ren, rens, sg, sig, okIn, okIns, exK, leK, leF, leV, matK, objM, renO, roSame, lh, born, AObj.born, AObj.live, injOk, kindOf, rens_ints, okIns_ints, List.range, List.range.loop, mrg, mset, evF_rens, evF_okIns]
end Go.Proofs.Ytbfefpkhalegmaa

set_option linter.unusedVariables false
set_option linter.unusedSimpArgs false
namespace Go.Proofs.Ytbfefpkhalegmaa
open Go
set_option maxHeartbeats 4000000
set_option maxRecDepth 20000

theorem rowT_self (w v : Int) (p : List Int) (y : Int) : rowT 0 0 w v p w v p y = true := by
  unfold rowT
  rw [List.all_eq_true]
  intro x _
  unfold likeB
  cases hf : flatB 0 0 w v p x y with
  | false => rfl
  | true => simp [flatC, hf]
theorem headEv_self (t w v : Int) (p : List Int) (y : Nat) : headEv t 0 0 true w v p w v p y = [((sizeN t - 1).toNat, 1)] := by
  unfold headEv; rw [rowT_self]; rfl
theorem pixEv_self (t w v : Int) (p : List Int) (y x : Nat) : pixEv t 0 0 true w v p w v p y x = if flatB 0 0 w v p x y then [] else [((ctxOf t 0 0 w v p w v p x y).toNat, pixAt w v p x y)] := by
  unfold pixEv; rw [rowT_self]; simp

theorem c_RefineSame (t kd : Int) (w v : Int) (p : List Int) (hpl : p.length ≤ big) (hbp : ByOk p) :
    LCall Try.prog 13 [bmV w v 0 p.length, .int .i64 t, .int .i64 kd] (pixL p) fun r L => r = .bool true ∧ L = pixL p := by
  have hkeep := pix_keep p
  refine lcall_of_vc tyok Try.func13 rfl (by rfl) Try.results13 Try.ntmps13 ?_; intro C hD
  simp (maxSteps := 2000000) only [↓vP0, vQ0, vT0, simprocAttr]
  refine callK_pure (c_rRefValid t 0 0 true kd) rfl rfl ?_
  by_cases ho : OptOk t 0 0 kd
  case neg =>
    simp (maxSteps := 2000000) only [↓vP0, vQ0, vT0, simprocAttr, dN ho]
    refine callK_pure (c_Awake) rfl rfl ?_
    simp (maxSteps := 2000000) only [↓vP0, vQ0, vT0, simprocAttr]
    exact exit_keep (L1 := pixL p) ⟨rfl, rfl⟩ trivial hkeep
  case pos =>
    simp (maxSteps := 2000000) only [↓vP0, vQ0, vT0, simprocAttr, dT ho]
    refine callK_read (c_rIsBitmap w v p hpl) [0] ?_ ?_ ?_ rfl ?_
    · simp [ren, rens, sg, sig, okIn, okIns, exK, leK, leF, leV, matK, objM, renO, roSame, lh, born, AObj.born, AObj.live, injOk, kindOf, rens_ints, okIns_ints, List.range, List.range.loop, mrg, mset]
    · simp [ren, rens, sg, sig, okIn, okIns, exK, leK, leF, leV, matK, objM, renO, roSame, lh, born, AObj.born, AObj.live, injOk, kindOf, rens_ints, okIns_ints, List.range, List.range.loop, mrg, mset]
    · simp [ren, rens, sg, sig, okIn, okIns, exK, leK, leF, leV, matK, objM, renO, roSame, lh, born, AObj.born, AObj.live, injOk, kindOf, rens_ints, okIns_ints, List.range, List.range.loop, mrg, mset]
    cases hb1 : bmB w v p with
    | false =>
      simp (maxSteps := 2000000) only [↓vP0, vQ0, vT0, simprocAttr]
      refine callK_pure (c_Awake) rfl rfl ?_
      simp (maxSteps := 2000000) only [↓vP0, vQ0, vT0, simprocAttr]
      exact exit_keep (L1 := pixL p) ⟨rfl, rfl⟩ trivial hkeep
    | true =>
      obtain ⟨hb, hp⟩ := bmB_ok hbp hb1
      obtain ⟨⟨s0, s1, s2, s3, s4⟩, s5⟩ := id hb
      have hs0 : sizeN t = 513 ∨ sizeN t = 129 := by unfold sizeN; split <;> simp
      have hsz := c_r8Size t
      rw [show (if t = 0 then 513 else if t = 1 then 129 else 0 : Int) = sizeN t by unfold sizeN; rcases ho.1 with rfl | rfl <;> rfl, if_pos ho.1] at hsz
      simp (maxSteps := 2000000) only [↓vP0, vQ0, vT0, simprocAttr]
      refine callK_pure (hsz) rfl rfl ?_
      simp (maxSteps := 2000000) only [↓vP0, vQ0, vT0, simprocAttr]
      have hDD := hD
      clear hD
      refine loopK_b tyok hDD (α := Nat) (fun y => (y : Int) ≤ v) (fun y => v.toNat - y)
        (fun y => [.junk, .int .i64 t, .int .i64 kd, .ptr 1 0, .junk, .junk, .junk, .ptr 2 0, .int .i64 (sizeN t), .junk, .slice 3 0 ((List.range y).flatMap (rowEv t 0 0 true w v p w v p)).length, .junk, .junk, .junk, .junk, .junk, .junk, .junk, .junk, .junk, .junk, .junk, .junk, .junk, .junk, .junk, .junk, .junk, .junk, .junk, .junk, .junk, .junk, .junk, .junk, .junk, .junk, .junk, .junk, .junk, .int .i64 v, .int .i64 y, .junk, .junk, .junk, .junk, .junk, .junk, .junk, .junk, .junk, .junk, .junk, .junk, .junk, .junk, .junk, .junk, .junk, .junk, .junk, .junk, .junk, .junk, .junk, .junk, .junk, .junk, .junk, .junk, .junk, .junk, .junk, .junk, .junk, .junk, .junk, .junk, .junk, .junk, .junk, .junk, .junk, .junk, .junk, .junk, .junk, .junk, .junk, .junk, .junk, .junk, .junk, .junk, .junk, .junk, .junk, .junk, .junk, .junk, .junk, .junk, .junk, .junk, .junk, .junk, .junk, .junk, .junk, .junk, .junk, .junk, .junk, .junk, .junk, .junk])
        (fun y => [.ro (ints .u8 p) 5, bmC w v 0 p.length, optC t 0 0 true kd, .own (evF ((List.range y).flatMap (rowEv t 0 0 true w v p w v p))) 100]) 0 (by omega) ⟨[(100, .fr 10 [])], [1, 2, 3], ?_⟩ ?_
      · simp (maxSteps := 2000000) only [↓vP0, vQ0, vT0, simprocAttr]
        simp only [leR, List.range_zero, List.flatMap_nil]
        simp [ren, rens, sg, sig, okIn, okIns, exK, leK, leF, leV, matK, objM, renO, roSame, lh, born, AObj.born, AObj.live, injOk, kindOf, rens_ints, okIns_ints, List.range, List.range.loop, mrg, mset, leF, leV, leK, evF, flat, ints_nil]
      intro y hy
      have hyl := rows_len (t := t) (dx := 0) (dy := 0) (ty := true) (w := w) (v := v) (p := p) (w' := w) (v' := v) (q := p) s1 y
      simp (maxSteps := 2000000) only [↓vP0, vQ0, vT0, simprocAttr]
      (with_reducible first | refine condK_dec (fun h => ?_) (fun h => ?_) | refine condK_beq (fun h => ?_) (fun h => ?_) | refine condK_bne (fun h => ?_) (fun h => ?_) | refine condK_intro (fun h => ?_) (fun h => ?_))
      · have hys : Small y := ⟨by omega, by omega⟩
        have hh : (List.range y).flatMap (rowEv t 0 0 true w v p w v p) ++ headEv t 0 0 true w v p w v p y = (List.range y).flatMap (rowEv t 0 0 true w v p w v p) ++ [((sizeN t - 1).toNat, 1)] := by rw [headEv_self]
        have ew : IntKind.i64.wrap (sizeN t - 1) = sizeN t - 1 := by simp (disch := omega) only [wr64, wru64, wru8, tdv, tmd, fdv]
        simp (maxSteps := 2000000) only [↓vP0, vQ0, vT0, simprocAttr, ew]
        refine chk_intro ⟨by rw [evF_len], by omega⟩ ?_
        simp (maxSteps := 2000000) only [↓vP0, vQ0, vT0, simprocAttr]
        rw [evF_snoc _ (sizeN t - 1).toNat _ _ (by omega), ← hh]
        have hl1 : (((List.range y).flatMap (rowEv t 0 0 true w v p w v p) ++ headEv t 0 0 true w v p w v p y).length : Int) = ((List.range y).flatMap (rowEv t 0 0 true w v p w v p)).length + 1 := by rw [hh]; simp
        have hl2 : ((List.range y).flatMap (rowEv t 0 0 true w v p w v p)).length + 1 = ((List.range y).flatMap (rowEv t 0 0 true w v p w v p) ++ headEv t 0 0 true w v p w v p y).length := by omega
        rw [hl2]
        generalize hB : (List.range y).flatMap (rowEv t 0 0 true w v p w v p) ++ headEv t 0 0 true w v p w v p y = B at *
        refine loopK_ren tyok hDD (α := Nat) (fun x => (x : Int) ≤ w) (fun x => w.toNat - x)
          (fun x => [.junk, .int .i64 t, .int .i64 kd, .ptr 1 0, .junk, .junk, .junk, .ptr 2 0, .int .i64 (sizeN t), .junk, .slice 3 0 (B ++ (List.range x).flatMap (pixEv t 0 0 true w v p w v p y)).length, .int .i64 y, .junk, .junk, .junk, .junk, .junk, .junk, .junk, .junk, .junk, .junk, .junk, .junk, .junk, .junk, .junk, .junk, .junk, .junk, .junk, .junk, .junk, .junk, .junk, .junk, .junk, .junk, .junk, .junk, .int .i64 v, .int .i64 y, .junk, .junk, .junk, .junk, .junk, .junk, .junk, .junk, .junk, .int .i64 w, .int .i64 x, .junk, .junk, .junk, .junk, .junk, .junk, .junk, .junk, .junk, .junk, .junk, .junk, .junk, .junk, .junk, .junk, .junk, .junk, .junk, .junk, .junk, .junk, .junk, .junk, .junk, .junk, .junk, .junk, .junk, .junk, .junk, .junk, .junk, .junk, .junk, .junk, .junk, .junk, .junk, .junk, .junk, .junk, .junk, .junk, .junk, .junk, .junk, .junk, .junk, .junk, .junk, .junk, .junk, .junk, .junk, .junk, .junk, .junk, .junk, .junk, .junk, .junk, .junk])
          (fun x => [.ro (ints .u8 p) 5, bmC w v 0 p.length, optC t 0 0 true kd, .own (evF (B ++ (List.range x).flatMap (pixEv t 0 0 true w v p w v p y))) 100]) 0 (by omega) ⟨[1, 2, 5], ?_⟩ ?_
        · simp only [leR, List.range_zero, List.flatMap_nil, List.append_nil]
          simp [ren, rens, sg, sig, okIn, okIns, exK, leK, leF, leV, matK, objM, renO, roSame, lh, born, AObj.born, AObj.live, injOk, kindOf, rens_ints, okIns_ints, List.range, List.range.loop, mrg, mset, leF, leV, leK, evF_rens, evF_okIns]
        intro x hx
        have hxl := part_lenEv (t := t) (dx := 0) (dy := 0) (ty := true) (w := w) (v := v) (p := p) (w' := w) (v' := v) (q := p) s1 y y x (by omega) (by omega)
        rw [hB] at hxl
        have hpx := pixEv_self t w v p y x
        have hnx : B ++ (List.range (x + 1)).flatMap (pixEv t 0 0 true w v p w v p y) = (B ++ (List.range x).flatMap (pixEv t 0 0 true w v p w v p y)) ++ pixEv t 0 0 true w v p w v p y x := by rw [range_flat_succ, List.append_assoc]
        generalize hA : B ++ (List.range x).flatMap (pixEv t 0 0 true w v p w v p y) = A at *
        simp (maxSteps := 2000000) only [↓vP0, vQ0, vT0, simprocAttr]
        (with_reducible first | refine condK_dec (fun h => ?_) (fun h => ?_) | refine condK_beq (fun h => ?_) (fun h => ?_) | refine condK_bne (fun h => ?_) (fun h => ?_) | refine condK_intro (fun h => ?_) (fun h => ?_))
        · have hxs : Small (x : Int) := ⟨by omega, by omega⟩
          simp (maxSteps := 2000000) only [↓vP0, vQ0, vT0, simprocAttr]
          refine callK_read (c_rAlike t 0 0 true kd ho.2.2 w v p hb x y hxs hys) [0] ?_ ?_ ?_ rfl ?_
          · simp [ren, rens, sg, sig, okIn, okIns, exK, leK, leF, leV, matK, objM, renO, roSame, lh, born, AObj.born, AObj.live, injOk, kindOf, rens_ints, okIns_ints, List.range, List.range.loop, mrg, mset]
          · simp [ren, rens, sg, sig, okIn, okIns, exK, leK, leF, leV, matK, objM, renO, roSame, lh, born, AObj.born, AObj.live, injOk, kindOf, rens_ints, okIns_ints, List.range, List.range.loop, mrg, mset]
          · simp [ren, rens, sg, sig, okIn, okIns, exK, leK, leF, leV, matK, objM, renO, roSame, lh, born, AObj.born, AObj.live, injOk, kindOf, rens_ints, okIns_ints, List.range, List.range.loop, mrg, mset]
          cases hf : flatB 0 0 w v p x y with
          | true =>
            rw [hpx, hf, if_pos rfl, List.append_nil] at hnx
            simp (maxSteps := 2000000) only [↓vP0, vQ0, vT0, simprocAttr]
            simp (disch := omega) only [wr64, wru64, wru8, tdv, tmd, fdv]
            refine ⟨x + 1, by omega, by omega, [1, 2, 3], ?_⟩
            simp only [leR, hnx, Int.natCast_add, Int.cast_ofNat_Int]
            simp [ren, rens, sg, sig, okIn, okIns, exK, leK, leF, leV, matK, objM, renO, roSame, lh, born, AObj.born, AObj.live, injOk, kindOf, rens_ints, okIns_ints, List.range, List.range.loop, mrg, mset, leF, leV, leK, evF_rens, evF_okIns]
          | false =>
            rw [hpx, hf, if_neg (by simp)] at hnx
            obtain ⟨cb0, cb1⟩ := ctx_bd (w := w) (v := v) (w' := w) (v' := v) hp hp t 0 0 x y ho.1
            have hpw : IntKind.i64.wrap (pixAt w v p x y) = pixAt w v p x y := by
              have := pix01 hp w v x y
              simp (disch := omega) only [wr64, wru64, wru8, tdv, tmd, fdv]
            simp (maxSteps := 2000000) only [↓vP0, vQ0, vT0, simprocAttr]
            refine drawK_of tyok rfl (usL [[], [], [], [], [], [], [], [6]]) (fun i => if i = 6 then .below 4 else .below 0) (by kernel_rfl) ?_
            simp (maxSteps := 2000000) only [↓vP0, vQ0, vT0, simprocAttr]
            refine callK_read (c_rContext t ho.1 0 0 true kd ho.2.2 w v w v p p hb hb hp hp x y hxs hys) [0, 0] ?_ ?_ ?_ rfl ?_
            · simp [ren, rens, sg, sig, okIn, okIns, exK, leK, leF, leV, matK, objM, renO, roSame, lh, born, AObj.born, AObj.live, injOk, kindOf, rens_ints, okIns_ints, List.range, List.range.loop, mrg, mset]
            · simp [ren, rens, sg, sig, okIn, okIns, exK, leK, leF, leV, matK, objM, renO, roSame, lh, born, AObj.born, AObj.live, injOk, kindOf, rens_ints, okIns_ints, List.range, List.range.loop, mrg, mset]
            · simp [ren, rens, sg, sig, okIn, okIns, exK, leK, leF, leV, matK, objM, renO, roSame, lh, born, AObj.born, AObj.live, injOk, kindOf, rens_ints, okIns_ints, List.range, List.range.loop, mrg, mset]
            simp (maxSteps := 2000000) only [↓vP0, vQ0, vT0, simprocAttr]
            refine callK_read (c_rPix w v p hb x y) [0] ?_ ?_ ?_ rfl ?_
            · simp [ren, rens, sg, sig, okIn, okIns, exK, leK, leF, leV, matK, objM, renO, roSame, lh, born, AObj.born, AObj.live, injOk, kindOf, rens_ints, okIns_ints, List.range, List.range.loop, mrg, mset]
            · simp [ren, rens, sg, sig, okIn, okIns, exK, leK, leF, leV, matK, objM, renO, roSame, lh, born, AObj.born, AObj.live, injOk, kindOf, rens_ints, okIns_ints, List.range, List.range.loop, mrg, mset]
            · simp [ren, rens, sg, sig, okIn, okIns, exK, leK, leF, leV, matK, objM, renO, roSame, lh, born, AObj.born, AObj.live, injOk, kindOf, rens_ints, okIns_ints, List.range, List.range.loop, mrg, mset]
            simp (maxSteps := 2000000) only [↓vP0, vQ0, vT0, simprocAttr, hpw]
            refine chk_intro ⟨by rw [evF_len], by omega⟩ ?_
            simp (maxSteps := 2000000) only [↓vP0, vQ0, vT0, simprocAttr]
            rw [evF_snoc _ (ctxOf t 0 0 w v p w v p x y).toNat _ _ (by omega), ← hnx]
            have hl3 : A.length + 1 = (B ++ (List.range (x + 1)).flatMap (pixEv t 0 0 true w v p w v p y)).length := by rw [hnx]; simp
            rw [hl3]
            simp (disch := omega) only [wr64, wru64, wru8, tdv, tmd, fdv]
            refine ⟨x + 1, by omega, by omega, [1, 2, 5], ?_⟩
            simp only [leR, Int.natCast_add, Int.cast_ofNat_Int]
            simp [ren, rens, sg, sig, okIn, okIns, exK, leK, leF, leV, matK, objM, renO, roSame, lh, born, AObj.born, AObj.live, injOk, kindOf, rens_ints, okIns_ints, List.range, List.range.loop, mrg, mset, leF, leV, leK, evF_rens, evF_okIns]
        · have hxw : x = w.toNat := by omega
          subst hxw
          have hny : (List.range (y + 1)).flatMap (rowEv t 0 0 true w v p w v p) = A := by
            rw [range_flat_succ, show rowEv t 0 0 true w v p w v p y = headEv t 0 0 true w v p w v p y ++ (List.range w.toNat).flatMap (pixEv t 0 0 true w v p w v p y) from rfl, ← List.append_assoc, hB, hA]
          simp (maxSteps := 2000000) only [↓vP0, vQ0, vT0, simprocAttr]
          simp (disch := omega) only [wr64, wru64, wru8, tdv, tmd, fdv]
          refine ⟨y + 1, by omega, by omega, [], [1, 2, 3], ?_⟩
          simp (maxSteps := 2000000) only [↓vP0, vQ0, vT0, simprocAttr]
          simp only [leR, hny, Int.natCast_add, Int.cast_ofNat_Int]
          simp [ren, rens, sg, sig, okIn, okIns, exK, leK, leF, leV, matK, objM, renO, roSame, lh, born, AObj.born, AObj.live, injOk, kindOf, rens_ints, okIns_ints, List.range, List.range.loop, mrg, mset, leF, leV, leK, evF_rens, evF_okIns]
      · have hyv : y = v.toNat := by omega
        subst hyv
        have hre : (List.range v.toNat).flatMap (rowEv t 0 0 true w v p w v p) = refEv t 0 0 true w v p w v p := rfl
        rw [hre]
        have hev := refEv_ok (t := t) (dx := 0) (dy := 0) (ty := true) (w := w) (v := v) (w' := w) (v' := v) ho.1 hp hp
        have hel := refEv_len (t := t) (dx := 0) (dy := 0) (ty := true) (p := p) (w' := w) (v' := v) (q := p) s1 s3
        obtain ⟨n, hn⟩ : ∃ n : Nat, sizeN t = (n : Int) := ⟨_, (Int.toNat_of_nonneg (by omega)).symm⟩
        have hnn : (sizeN t).toNat = n := by omega
        have hz := zeros_ok ho.2.1 (n := n) (by omega)
        have f1 : reErr t 0 0 kd w v p w v p = 0 := by rw [reErr, if_neg (not_not_intro ho), hb1, if_neg (by simp)]
        have f2 : reCode t 0 0 true kd w v p w v p = (encAll (encNew kd (zeros n)) (refEv t 0 0 true w v p w v p)).fin := by rw [reCode, if_neg (by rw [f1]; simp), reAll, hnn]
        have c1 := c_p8Encode t 0 0 (by omega) (by omega) true kd w v w v p p hpl hpl hbp hbp
        have hcl := (reCode_len (t := t) (dx := 0) (dy := 0) (ty := true) (kd := kd) (w := w) (v := v) (w' := w) (v' := v) hbp hbp).1
        have c2 := c_pEncodeEv kd (zeros n) hz (refEv t 0 0 true w v p w v p) (by rw [zeros_len, ← hnn]; exact hev) (by omega)
        rw [f1, f2] at c1
        rw [f2] at hcl
        rw [hn]
        generalize refEv t 0 0 true w v p w v p = ev at *
        generalize encAll (encNew kd (zeros n)) ev = E at *
        simp (maxSteps := 2000000) only [↓vP0, vQ0, vT0, simprocAttr]
        refine callK_det (c_rNew kd ho.2.1 n (by omega)) [] ?_ ?_ ?_ rfl (by simp) ?_
        · simp [ren, rens, sg, sig, okIn, okIns, exK, leK, leF, leV, matK, objM, renO, roSame, lh, born, AObj.born, AObj.live, injOk, kindOf, rens_ints, okIns_ints, List.range, List.range.loop, mrg, mset]
        · simp [ren, rens, sg, sig, okIn, okIns, exK, leK, leF, leV, matK, objM, renO, roSame, lh, born, AObj.born, AObj.live, injOk, kindOf, rens_ints, okIns_ints, List.range, List.range.loop, mrg, mset]
        · simp [ren, rens, sg, sig, okIn, okIns, exK, leK, leF, leV, matK, objM, renO, roSame, lh, born, AObj.born, AObj.live, injOk, kindOf, rens_ints, okIns_ints, List.range, List.range.loop, mrg, mset]
        simp (maxSteps := 2000000) only [↓vP0, vQ0, vT0, simprocAttr]
        refine callK_det (c2) [4, 3] ?_ ?_ ?_ rfl (by simp [zeros, evF_rens, evF_okIns]) ?_
        · simp [ren, rens, sg, sig, okIn, okIns, exK, leK, leF, leV, matK, objM, renO, roSame, lh, born, AObj.born, AObj.live, injOk, kindOf, rens_ints, okIns_ints, List.range, List.range.loop, mrg, mset, zeros, evF_rens, evF_okIns]
        · simp [ren, rens, sg, sig, okIn, okIns, exK, leK, leF, leV, matK, objM, renO, roSame, lh, born, AObj.born, AObj.live, injOk, kindOf, rens_ints, okIns_ints, List.range, List.range.loop, mrg, mset, zeros, evF_rens, evF_okIns]
        · simp [ren, rens, sg, sig, okIn, okIns, exK, leK, leF, leV, matK, objM, renO, roSame, lh, born, AObj.born, AObj.live, injOk, kindOf, rens_ints, okIns_ints, List.range, List.range.loop, mrg, mset, zeros, evF_rens, evF_okIns]
        simp (maxSteps := 2000000) only [↓vP0, vQ0, vT0, simprocAttr]
        refine callK_det (c1) [0, 0] ?_ ?_ ?_ rfl (by simp) ?_
        · simp [ren, rens, sg, sig, okIn, okIns, exK, leK, leF, leV, matK, objM, renO, roSame, lh, born, AObj.born, AObj.live, injOk, kindOf, rens_ints, okIns_ints, List.range, List.range.loop, mrg, mset]
        · simp [ren, rens, sg, sig, okIn, okIns, exK, leK, leF, leV, matK, objM, renO, roSame, lh, born, AObj.born, AObj.live, injOk, kindOf, rens_ints, okIns_ints, List.range, List.range.loop, mrg, mset]
        · simp [ren, rens, sg, sig, okIn, okIns, exK, leK, leF, leV, matK, objM, renO, roSame, lh, born, AObj.born, AObj.live, injOk, kindOf, rens_ints, okIns_ints, List.range, List.range.loop, mrg, mset]
        simp (maxSteps := 2000000) only [↓vP0, vQ0, vT0, simprocAttr]
        refine callK_read (c_SameBytes E.fin E.fin (by omega) (by omega)) [9, 6] ?_ ?_ ?_ rfl ?_
        · simp [ren, rens, sg, sig, okIn, okIns, exK, leK, leF, leV, matK, objM, renO, roSame, lh, born, AObj.born, AObj.live, injOk, kindOf, rens_ints, okIns_ints, List.range, List.range.loop, mrg, mset]
        · simp [ren, rens, sg, sig, okIn, okIns, exK, leK, leF, leV, matK, objM, renO, roSame, lh, born, AObj.born, AObj.live, injOk, kindOf, rens_ints, okIns_ints, List.range, List.range.loop, mrg, mset]
        · simp [ren, rens, sg, sig, okIn, okIns, exK, leK, leF, leV, matK, objM, renO, roSame, lh, born, AObj.born, AObj.live, injOk, kindOf, rens_ints, okIns_ints, List.range, List.range.loop, mrg, mset]
        simp (maxSteps := 2000000) only [↓vP0, vQ0, vT0, simprocAttr, dT (show E.fin = E.fin from rfl)]
        refine callK_pure (c_Awake) rfl rfl ?_
        simp (maxSteps := 2000000) only [↓vP0, vQ0, vT0, simprocAttr]
        exact exit_keep (L1 := pixL p) ⟨rfl, rfl⟩ trivial hkeep
end Go.Proofs.Ytbfefpkhalegmaa
