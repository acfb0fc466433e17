/- The contract of the reference's Put of a region. -/
import Derived.Test.YtbfefpkhalegmaaF2
import Derived.KernelRfl

set_option linter.unusedVariables false
set_option linter.unusedSimpArgs false
namespace Go.Proofs.Ytbfefpkhalegmaa
open Go
set_option maxHeartbeats 4000000
set_option maxRecDepth 20000

theorem mv_ok {n m : Nat} {base : Nat} (h : base + n ≤ m) {l : List (Nat × Int)} (hl : EvsOk n l) : EvsOk m (mv base l) := by
  intro x hx
  obtain ⟨z, hz, rfl⟩ := List.mem_map.1 hx
  have := hl z hz
  exact ⟨by have := this.1; simp only; omega, this.2⟩
theorem encMv {e : Enc} (he : e.Ok) {n base : Nat} (h : base + n ≤ e.st.length) {l : List (Nat × Int)} (hl : EvsOk n l) (hn : l.length ≤ 50000) :
    (encAll e (mv base l)).Ok ∧ (encAll e (mv base l)).kd = e.kd ∧ (encAll e (mv base l)).st.length = e.st.length ∧ (encAll e (mv base l)).out.length ≤ e.out.length + 200000 := by
  obtain ⟨a, b, c, d⟩ := encAll_ok (mv base l) e he (mv_ok h hl)
  rw [mv_len] at d
  exact ⟨a, b, c, by omega⟩
theorem encSnoc (e : Enc) (base : Nat) (l : List (Nat × Int)) (c : Nat) (b : Int) : encAll e (mv base (l ++ [(c, b)])) = (encAll e (mv base l)).put (base + c) b := by
  rw [mv_app, encAll_app]; rfl
theorem c_rContext (t : Int) (ht : t = 0 ∨ t = 1) (dx dy : Int) (ty : Bool) (kd : Int) (ho : OffOk dx dy) (w v w' v' : Int) (p q : List Int) (hb : BmOk w v p) (hr : BmOk w' v' q) (hp : PixOk p) (hq : PixOk q) (x y : Int) (hx : Small x) (hy : Small y) :
    LCall Try.prog 63 [optV t dx dy ty kd, bmV w v 0 p.length, bmV w' v' 1 q.length, .int .i64 x, .int .i64 y] (pix2L p q) fun r L =>
      r = .int .i64 (ctxOf t dx dy w v p w' v' q x y) ∧ L = pix2L p q := by
  rcases ht with rfl | rfl
  · exact c_rContext0 dx dy ty kd ho w v w' v' p q hb hr hp hq x y hx hy
  · exact c_rContext1 dx dy ty kd ho w v w' v' p q hb hr hp hq x y hx hy
abbrev r8L (E : Enc) (t dx dy : Int) (ty : Bool) (kd w v w' v' : Int) (p q : List Int) : List AObj :=
  [.own (rEncC E 1 5) 132, .own (ints .i64 E.st) 3, .dead, .ro (ints .u8 p) 5, .ro (ints .u8 q) 5, .own (ints .u8 E.out) 5, optC t dx dy ty kd, bmC w v 3 p.length, bmC w' v' 4 q.length]
theorem c_r8Put (e : Enc) (he : e.Ok) (base : Nat) (t dx dy : Int) (ty : Bool) (kd : Int) (ho : OptOk t dx dy kd) (w v w' v' : Int) (p q : List Int) (hb : BmOk w v p) (hr : BmOk w' v' q) (hp : PixOk p) (hq : PixOk q)
    (hb1 : bmB w v p = true) (hr1 : bmB w' v' q = true) (hbase : (base : Int) ≤ e.st.length - sizeN t) (hl : e.st.length ≤ 8192) (hout : e.out.length ≤ 1000000000000) (E' : Enc) (hE' : E' = encAll e (mv base (refEv t dx dy ty w v p w' v' q))) :
    LCall Try.prog 40 [.ptr 0 0, .int .i64 base, optV t dx dy ty kd, bmV w v 3 p.length, bmV w' v' 4 q.length] (rEncL e ++ pix2L p q) fun r L =>
      r = .int .i64 0 ∧ L = [.own (rEncC E' 1 5) 132, .own (ints .i64 E'.st) 3, .dead, .ro (ints .u8 p) 5, .ro (ints .u8 q) 5, .own (ints .u8 E'.out) 5] := by
  have hask : askErr t dx dy kd true base e.st.length = 0 := by
    rw [askErr, if_neg (not_not_intro ho), if_neg (by simp), if_neg (by omega)]
  have hs0 : sizeN t = 513 ∨ sizeN t = 129 := by unfold sizeN; split <;> simp
  obtain ⟨⟨s0, s1, s2, s3, s4⟩, s5⟩ := id hb
  have hpl := bmOk_len hb
  have hql := bmOk_len hr
  refine lcall_of_vc tyok Try.func40 rfl (by rfl) Try.results40 Try.ntmps40 ?_; intro C hD
  simp only [rEncL, rEncC] at hD ⊢
  simp (maxSteps := 2000000) only [↓vP0, vQ0, vT0, simprocAttr]
  refine drawK_of tyok rfl (usL [[2, 5], [], [], [], [], [], [], [], [], [], [], [2, 5]]) (fun i => .below 8) (by kernel_rfl) ?_
  simp (maxSteps := 2000000) only [↓vP0, vQ0, vT0, simprocAttr]
  refine callK_read (c_rIsBitmap w v p (by omega)) [3] ?_ ?_ ?_ rfl ?_
  · simp [ren, rens, sg, sig, okIn, okIns, exK, leK, leF, leV, matK, objM, renO, roSame, lh, born, AObj.born, AObj.live, injOk, kindOf, rens_ints, okIns_ints, List.range, List.range.loop, mrg, mset]
  · simp [ren, rens, sg, sig, okIn, okIns, exK, leK, leF, leV, matK, objM, renO, roSame, lh, born, AObj.born, AObj.live, injOk, kindOf, rens_ints, okIns_ints, List.range, List.range.loop, mrg, mset]
  · simp [ren, rens, sg, sig, okIn, okIns, exK, leK, leF, leV, matK, objM, renO, roSame, lh, born, AObj.born, AObj.live, injOk, kindOf, rens_ints, okIns_ints, List.range, List.range.loop, mrg, mset]
  rw [hb1]
  simp (maxSteps := 2000000) only [↓vP0, vQ0, vT0, simprocAttr]
  refine callK_read (c_rIsBitmap w' v' q (by omega)) [4] ?_ ?_ ?_ rfl ?_
  · simp [ren, rens, sg, sig, okIn, okIns, exK, leK, leF, leV, matK, objM, renO, roSame, lh, born, AObj.born, AObj.live, injOk, kindOf, rens_ints, okIns_ints, List.range, List.range.loop, mrg, mset]
  · simp [ren, rens, sg, sig, okIn, okIns, exK, leK, leF, leV, matK, objM, renO, roSame, lh, born, AObj.born, AObj.live, injOk, kindOf, rens_ints, okIns_ints, List.range, List.range.loop, mrg, mset]
  · simp [ren, rens, sg, sig, okIn, okIns, exK, leK, leF, leV, matK, objM, renO, roSame, lh, born, AObj.born, AObj.live, injOk, kindOf, rens_ints, okIns_ints, List.range, List.range.loop, mrg, mset]
  rw [hr1]
  simp (maxSteps := 2000000) only [↓vP0, vQ0, vT0, simprocAttr]
  refine callK_read (c_asked t dx dy ty kd true base e.kd e.st hl) [1] ?_ ?_ ?_ rfl ?_
  · simp [ren, rens, sg, sig, okIn, okIns, exK, leK, leF, leV, matK, objM, renO, roSame, lh, born, AObj.born, AObj.live, injOk, kindOf, rens_ints, okIns_ints, List.range, List.range.loop, mrg, mset]
  · simp [ren, rens, sg, sig, okIn, okIns, exK, leK, leF, leV, matK, objM, renO, roSame, lh, born, AObj.born, AObj.live, injOk, kindOf, rens_ints, okIns_ints, List.range, List.range.loop, mrg, mset]
  · simp [ren, rens, sg, sig, okIn, okIns, exK, leK, leF, leV, matK, objM, renO, roSame, lh, born, AObj.born, AObj.live, injOk, kindOf, rens_ints, okIns_ints, List.range, List.range.loop, mrg, mset]
  rw [hask]
  simp (maxSteps := 2000000) only [↓vP0, vQ0, vT0, simprocAttr]
  refine callK_pure (c_r8size t) rfl rfl ?_
  rw [show (if t = 0 then 513 else 129 : Int) = sizeN t from rfl]
  simp (maxSteps := 2000000) only [↓vP0, vQ0, vT0, simprocAttr]
  simp (disch := omega) only [wr64, wru64, wru8, tdv, tmd, fdv]
  refine loopK_ren tyok hD (α := Nat) (fun y => (y : Int) ≤ v) (fun y => v.toNat - y) (fun y => [.ptr 0 0, .int .i64 base, .junk, .junk, .junk, .junk, .junk, .ptr 6 0, .ptr 7 0, .ptr 8 0, .junk, .junk, .int .i64 ((base : Int) + sizeN t - 1), .int .i64 y, .junk, .junk, .junk, .junk, .junk, .junk, .junk, .junk, .junk, .junk, .junk, .junk, .junk, .junk, .junk, .junk, .junk, .junk, .junk, .junk, .junk, .junk, .junk, .junk, .junk, .junk, .junk, .junk, .junk, .junk, .junk, .junk, .junk, .junk, .junk, .junk, .junk, .junk, .junk, .junk, .junk, .junk, .junk, .junk, .junk, .junk, .junk, .junk, .junk, .junk, .junk, .junk, .junk, .junk, .junk, .junk, .junk, .junk, .junk, .junk, .junk, .junk, .junk, .junk, .junk, .junk, .junk, .junk, .junk, .junk, .junk, .junk, .junk, .junk, .junk, .junk, .junk, .junk, .junk, .junk, .junk, .junk, .junk, .junk, .junk, .junk])
    (fun y => r8L (encAll e (mv base ((List.range y).flatMap (rowEv t dx dy ty w v p w' v' q)))) t dx dy ty kd w v w' v' p q) 0 (by omega) ⟨[2, 5, 6, 7], ?_⟩ ?_
  · simp only [leR, r8L, List.range_zero, List.flatMap_nil, mv, List.map_nil, encAll]
    simp [ren, rens, sg, sig, okIn, okIns, exK, leK, leF, leV, matK, objM, renO, roSame, lh, born, AObj.born, AObj.live, injOk, kindOf, rens_ints, okIns_ints, List.range, List.range.loop, mrg, mset, leF, leV, leK, rEncC_rens, rEncC_okIns, rEncC_inj, rEncC]
  intro y hy
  simp only [r8L]
  simp (maxSteps := 2000000) only [↓vP0, vQ0, vT0, simprocAttr]
  (with_reducible first | refine condK_dec (fun h => ?_) (fun h => ?_) | refine condK_beq (fun h => ?_) (fun h => ?_) | refine condK_bne (fun h => ?_) (fun h => ?_) | refine condK_intro (fun h => ?_) (fun h => ?_))
  · have hys : Small y := ⟨by omega, by omega⟩
    cases ty with
    | true =>
      have hN : base + (sizeN t).toNat ≤ e.st.length := by omega
      obtain ⟨k1, k2, k3, k4⟩ := encMv he hN (rows_ok (dx := dx) (dy := dy) (ty := true) (w := w) (v := v) (w' := w') (v' := v') ho.1 hp hq y) (Nat.le_trans (rows_len s1 y) (by omega))
      generalize hEy : encAll e (mv base ((List.range y).flatMap (rowEv t dx dy true w v p w' v' q))) = F at k1 k2 k3 k4
      simp (maxSteps := 2000000) only [↓vP0, vQ0, vT0, simprocAttr]
      refine callK_read (c_rRow t dx dy true kd ho.2.2 w v w' v' p q hb hr y hys) [3, 4] ?_ ?_ ?_ rfl ?_
      · simp [ren, rens, sg, sig, okIn, okIns, exK, leK, leF, leV, matK, objM, renO, roSame, lh, born, AObj.born, AObj.live, injOk, kindOf, rens_ints, okIns_ints, List.range, List.range.loop, mrg, mset]
      · simp [ren, rens, sg, sig, okIn, okIns, exK, leK, leF, leV, matK, objM, renO, roSame, lh, born, AObj.born, AObj.live, injOk, kindOf, rens_ints, okIns_ints, List.range, List.range.loop, mrg, mset]
      · simp [ren, rens, sg, sig, okIn, okIns, exK, leK, leF, leV, matK, objM, renO, roSame, lh, born, AObj.born, AObj.live, injOk, kindOf, rens_ints, okIns_ints, List.range, List.range.loop, mrg, mset]
      obtain ⟨l, hl1⟩ : ∃ l : Nat, (base : Int) + sizeN t - 1 = (l : Int) := ⟨_, (Int.toNat_of_nonneg (by omega)).symm⟩
      rw [hl1]
      cases hrow : rowT dx dy w v p w' v' q y with
      | true =>
        simp (maxSteps := 2000000) only [↓vP0, vQ0, vT0, simprocAttr]
        refine callK_det (c_rPut F k1 l (by omega) 1 (by simp [KdOk]) (by omega)) [0, 1, 5] ?_ ?_ ?_ rfl (by simp [rEncL, rEncM]) ?_
        · simp [ren, rens, sg, sig, okIn, okIns, exK, leK, leF, leV, matK, objM, renO, roSame, lh, born, AObj.born, AObj.live, injOk, kindOf, rens_ints, okIns_ints, List.range, List.range.loop, mrg, mset]
        · simp [ren, rens, sg, sig, okIn, okIns, exK, leK, leF, leV, matK, objM, renO, roSame, lh, born, AObj.born, AObj.live, injOk, kindOf, rens_ints, okIns_ints, List.range, List.range.loop, mrg, mset, rEncL]
        · simp [ren, rens, sg, sig, okIn, okIns, exK, leK, leF, leV, matK, objM, renO, roSame, lh, born, AObj.born, AObj.live, injOk, kindOf, rens_ints, okIns_ints, List.range, List.range.loop, mrg, mset, rEncL, rEncC_rens, rEncC_okIns, rEncC_inj]
        simp only [rEncL, rEncM]
        simp (maxSteps := 2000000) only [↓vP0, vQ0, vT0, simprocAttr, rEncC_rens]
        have hh : encAll e (mv base ((List.range y).flatMap (rowEv t dx dy true w v p w' v' q) ++ headEv t dx dy true w v p w' v' q y)) = F.put l 1 := by
          rw [show headEv t dx dy true w v p w' v' q y = [((sizeN t - 1).toNat, 1)] from by simp [headEv, hrow], encSnoc, hEy, show base + (sizeN t - 1).toNat = l by omega]
        refine loopK_ren tyok hD (α := Nat) (fun x => (x : Int) ≤ w) (fun x => w.toNat - x) (fun x => [.ptr 0 0, .int .i64 base, .junk, .junk, .junk, .junk, .junk, .ptr 6 0, .ptr 7 0, .ptr 8 0, .junk, .junk, .int .i64 l, .int .i64 y, .bool true, .junk, .int .i64 x, .junk, .junk, .junk, .junk, .junk, .junk, .junk, .junk, .junk, .junk, .junk, .junk, .junk, .junk, .junk, .junk, .junk, .junk, .junk, .junk, .junk, .junk, .junk, .junk, .junk, .junk, .junk, .junk, .junk, .junk, .junk, .junk, .junk, .junk, .junk, .junk, .junk, .junk, .junk, .junk, .junk, .junk, .junk, .junk, .junk, .junk, .junk, .junk, .junk, .junk, .junk, .junk, .junk, .junk, .junk, .junk, .junk, .junk, .junk, .junk, .junk, .junk, .junk, .junk, .junk, .junk, .junk, .junk, .junk, .junk, .junk, .junk, .junk, .junk, .junk, .junk, .junk, .junk, .junk, .junk, .junk, .junk, .junk])
          (fun x => r8L (encAll e (mv base ((List.range y).flatMap (rowEv t dx dy true w v p w' v' q) ++ headEv t dx dy true w v p w' v' q y ++ (List.range x).flatMap (pixEv t dx dy true w v p w' v' q y)))) t dx dy true kd w v w' v' p q) 0 (by omega) ⟨[9, 6, 7, 8], ?_⟩ ?_
        · simp only [leR, r8L, List.range_zero, List.flatMap_nil, List.append_nil, hh]
          simp [ren, rens, sg, sig, okIn, okIns, exK, leK, leF, leV, matK, objM, renO, roSame, lh, born, AObj.born, AObj.live, injOk, kindOf, rens_ints, okIns_ints, List.range, List.range.loop, mrg, mset, leF, leV, leK, rEncC_rens, rEncC_okIns, rEncC_inj]
        intro x hx
        obtain ⟨q1, q2, q3, q4⟩ := encMv he hN (part_okEv (dx := dx) (dy := dy) (ty := true) (w := w) (v := v) (w' := w') (v' := v') ho.1 hp hq y y x) (part_lenEv s1 y y x (by omega) (by omega))
        generalize hEx : encAll e (mv base ((List.range y).flatMap (rowEv t dx dy true w v p w' v' q) ++ headEv t dx dy true w v p w' v' q y ++ (List.range x).flatMap (pixEv t dx dy true w v p w' v' q y))) = E at q1 q2 q3 q4
        simp only [r8L, hEx]
        simp (maxSteps := 2000000) only [↓vP0, vQ0, vT0, simprocAttr]
        (with_reducible first | refine condK_dec (fun h => ?_) (fun h => ?_) | refine condK_beq (fun h => ?_) (fun h => ?_) | refine condK_bne (fun h => ?_) (fun h => ?_) | refine condK_intro (fun h => ?_) (fun h => ?_))
        · have hxs : Small (x : Int) := ⟨by omega, by omega⟩
          simp (maxSteps := 2000000) only [↓vP0, vQ0, vT0, simprocAttr]
          refine callK_read (c_rAlike t dx dy true kd ho.2.2 w' v' q hr x y hxs hys) [4] ?_ ?_ ?_ rfl ?_
          · simp [ren, rens, sg, sig, okIn, okIns, exK, leK, leF, leV, matK, objM, renO, roSame, lh, born, AObj.born, AObj.live, injOk, kindOf, rens_ints, okIns_ints, List.range, List.range.loop, mrg, mset]
          · simp [ren, rens, sg, sig, okIn, okIns, exK, leK, leF, leV, matK, objM, renO, roSame, lh, born, AObj.born, AObj.live, injOk, kindOf, rens_ints, okIns_ints, List.range, List.range.loop, mrg, mset]
          · simp [ren, rens, sg, sig, okIn, okIns, exK, leK, leF, leV, matK, objM, renO, roSame, lh, born, AObj.born, AObj.live, injOk, kindOf, rens_ints, okIns_ints, List.range, List.range.loop, mrg, mset]
          cases hf : flatB dx dy w' v' q x y with
          | true =>
            simp (maxSteps := 2000000) only [↓vP0, vQ0, vT0, simprocAttr]
            simp (disch := omega) only [wr64, wru64, wru8, tdv, tmd, fdv]
            have hpe : pixEv t dx dy true w v p w' v' q y x = [] := by simp [pixEv, hf, hrow]
            have hnx : encAll e (mv base ((List.range y).flatMap (rowEv t dx dy true w v p w' v' q) ++ headEv t dx dy true w v p w' v' q y ++ (List.range (x + 1)).flatMap (pixEv t dx dy true w v p w' v' q y))) = E := by
              rw [range_flat_succ, ← List.append_assoc, hpe, List.append_nil, hEx]
            refine ⟨x + 1, by omega, by omega, [5, 6, 7, 8], ?_⟩
            simp only [leR, hnx, Int.natCast_add, Int.cast_ofNat_Int]
            simp [ren, rens, sg, sig, okIn, okIns, exK, leK, leF, leV, matK, objM, renO, roSame, lh, born, AObj.born, AObj.live, injOk, kindOf, rens_ints, okIns_ints, List.range, List.range.loop, mrg, mset, leF, leV, leK, rEncC_rens, rEncC_okIns, rEncC_inj]
          | false =>
            simp (maxSteps := 2000000) only [↓vP0, vQ0, vT0, simprocAttr]
            refine drawK_of tyok rfl (usL [[], [], [], [], [], [], [], [], [], [7]]) (fun i => if i = 7 then .below 9 else .below 0) (by kernel_rfl) ?_
            simp (maxSteps := 2000000) only [↓vP0, vQ0, vT0, simprocAttr]
            refine callK_read (c_rContext t ho.1 dx dy true kd ho.2.2 w v w' v' p q hb hr hp hq x y hxs hys) [3, 4] ?_ ?_ ?_ rfl ?_
            · simp [ren, rens, sg, sig, okIn, okIns, exK, leK, leF, leV, matK, objM, renO, roSame, lh, born, AObj.born, AObj.live, injOk, kindOf, rens_ints, okIns_ints, List.range, List.range.loop, mrg, mset]
            · simp [ren, rens, sg, sig, okIn, okIns, exK, leK, leF, leV, matK, objM, renO, roSame, lh, born, AObj.born, AObj.live, injOk, kindOf, rens_ints, okIns_ints, List.range, List.range.loop, mrg, mset]
            · simp [ren, rens, sg, sig, okIn, okIns, exK, leK, leF, leV, matK, objM, renO, roSame, lh, born, AObj.born, AObj.live, injOk, kindOf, rens_ints, okIns_ints, List.range, List.range.loop, mrg, mset]
            simp (maxSteps := 2000000) only [↓vP0, vQ0, vT0, simprocAttr]
            refine callK_read (c_rPix w v p hb x y) [3] ?_ ?_ ?_ rfl ?_
            · simp [ren, rens, sg, sig, okIn, okIns, exK, leK, leF, leV, matK, objM, renO, roSame, lh, born, AObj.born, AObj.live, injOk, kindOf, rens_ints, okIns_ints, List.range, List.range.loop, mrg, mset]
            · simp [ren, rens, sg, sig, okIn, okIns, exK, leK, leF, leV, matK, objM, renO, roSame, lh, born, AObj.born, AObj.live, injOk, kindOf, rens_ints, okIns_ints, List.range, List.range.loop, mrg, mset]
            · simp [ren, rens, sg, sig, okIn, okIns, exK, leK, leF, leV, matK, objM, renO, roSame, lh, born, AObj.born, AObj.live, injOk, kindOf, rens_ints, okIns_ints, List.range, List.range.loop, mrg, mset]
            obtain ⟨cb0, cb1⟩ := ctx_bd (w := w) (v := v) (w' := w') (v' := v') hp hq t dx dy x y ho.1
            obtain ⟨c, hc⟩ : ∃ c : Nat, ctxOf t dx dy w v p w' v' q x y = (c : Int) := ⟨_, (Int.toNat_of_nonneg cb0).symm⟩
            have hcs : (c : Int) + 1 ≤ sizeN t := by
              rw [hc] at cb1; unfold sizeN; split <;> simp_all <;> omega
            have hpw : IntKind.i64.wrap (pixAt w v p x y) = pixAt w v p x y := by
              have := pix01 hp w v x y
              simp (disch := omega) only [wr64, wru64, wru8, tdv, tmd, fdv]
            rw [hc]
            simp (maxSteps := 2000000) only [↓vP0, vQ0, vT0, simprocAttr, hpw]
            simp (disch := omega) only [wr64, wru64, wru8, tdv, tmd, fdv]
            rw [← Int.natCast_add]
            refine callK_det (c_rPut E q1 (base + c) (by omega) _ (pix01 hp w v x y) (by omega)) [0, 1, 5] ?_ ?_ ?_ rfl (by simp [rEncL, rEncM]) ?_
            · simp [ren, rens, sg, sig, okIn, okIns, exK, leK, leF, leV, matK, objM, renO, roSame, lh, born, AObj.born, AObj.live, injOk, kindOf, rens_ints, okIns_ints, List.range, List.range.loop, mrg, mset]
            · simp [ren, rens, sg, sig, okIn, okIns, exK, leK, leF, leV, matK, objM, renO, roSame, lh, born, AObj.born, AObj.live, injOk, kindOf, rens_ints, okIns_ints, List.range, List.range.loop, mrg, mset, rEncL]
            · simp [ren, rens, sg, sig, okIn, okIns, exK, leK, leF, leV, matK, objM, renO, roSame, lh, born, AObj.born, AObj.live, injOk, kindOf, rens_ints, okIns_ints, List.range, List.range.loop, mrg, mset, rEncL, rEncC_rens, rEncC_okIns, rEncC_inj]
            simp only [rEncL, rEncM]
            simp (maxSteps := 2000000) only [↓vP0, vQ0, vT0, simprocAttr, rEncC_rens]
            simp (disch := omega) only [wr64, wru64, wru8, tdv, tmd, fdv]
            have hpe : pixEv t dx dy true w v p w' v' q y x = [(c, pixAt w v p x y)] := by simp [pixEv, hc, hf]
            have hnx : encAll e (mv base ((List.range y).flatMap (rowEv t dx dy true w v p w' v' q) ++ headEv t dx dy true w v p w' v' q y ++ (List.range (x + 1)).flatMap (pixEv t dx dy true w v p w' v' q y))) = E.put (base + c) (pixAt w v p x y) := by
              rw [range_flat_succ, ← List.append_assoc, hpe, encSnoc, hEx]
            refine ⟨x + 1, by omega, by omega, [9, 6, 7, 8], ?_⟩
            simp only [leR, hnx, Int.natCast_add, Int.cast_ofNat_Int]
            simp [ren, rens, sg, sig, okIn, okIns, exK, leK, leF, leV, matK, objM, renO, roSame, lh, born, AObj.born, AObj.live, injOk, kindOf, rens_ints, okIns_ints, List.range, List.range.loop, mrg, mset, leF, leV, leK, rEncC_rens, rEncC_okIns, rEncC_inj]
        · have hxw : x = w.toNat := by omega
          subst hxw
          simp (maxSteps := 2000000) only [↓vP0, vQ0, vT0, simprocAttr]
          simp (disch := omega) only [wr64, wru64, wru8, tdv, tmd, fdv]
          have hny : encAll e (mv base ((List.range (y + 1)).flatMap (rowEv t dx dy true w v p w' v' q))) = E := by
            rw [range_flat_succ, show rowEv t dx dy true w v p w' v' q y = headEv t dx dy true w v p w' v' q y ++ (List.range w.toNat).flatMap (pixEv t dx dy true w v p w' v' q y) from rfl, ← List.append_assoc, hEx]
          refine ⟨y + 1, by omega, by omega, [5, 6, 7, 8], ?_⟩
          simp only [leR, r8L, hny, hl1, Int.natCast_add, Int.cast_ofNat_Int]
          simp [ren, rens, sg, sig, okIn, okIns, exK, leK, leF, leV, matK, objM, renO, roSame, lh, born, AObj.born, AObj.live, injOk, kindOf, rens_ints, okIns_ints, List.range, List.range.loop, mrg, mset, leF, leV, leK, rEncC_rens, rEncC_okIns, rEncC_inj]
      | false =>
        simp (maxSteps := 2000000) only [↓vP0, vQ0, vT0, simprocAttr]
        refine callK_det (c_rPut F k1 l (by omega) 0 (by simp [KdOk]) (by omega)) [0, 1, 5] ?_ ?_ ?_ rfl (by simp [rEncL, rEncM]) ?_
        · simp [ren, rens, sg, sig, okIn, okIns, exK, leK, leF, leV, matK, objM, renO, roSame, lh, born, AObj.born, AObj.live, injOk, kindOf, rens_ints, okIns_ints, List.range, List.range.loop, mrg, mset]
        · simp [ren, rens, sg, sig, okIn, okIns, exK, leK, leF, leV, matK, objM, renO, roSame, lh, born, AObj.born, AObj.live, injOk, kindOf, rens_ints, okIns_ints, List.range, List.range.loop, mrg, mset, rEncL]
        · simp [ren, rens, sg, sig, okIn, okIns, exK, leK, leF, leV, matK, objM, renO, roSame, lh, born, AObj.born, AObj.live, injOk, kindOf, rens_ints, okIns_ints, List.range, List.range.loop, mrg, mset, rEncL, rEncC_rens, rEncC_okIns, rEncC_inj]
        simp only [rEncL, rEncM]
        simp (maxSteps := 2000000) only [↓vP0, vQ0, vT0, simprocAttr, rEncC_rens]
        have hh : encAll e (mv base ((List.range y).flatMap (rowEv t dx dy true w v p w' v' q) ++ headEv t dx dy true w v p w' v' q y)) = F.put l 0 := by
          rw [show headEv t dx dy true w v p w' v' q y = [((sizeN t - 1).toNat, 0)] from by simp [headEv, hrow], encSnoc, hEy, show base + (sizeN t - 1).toNat = l by omega]
        refine loopK_ren tyok hD (α := Nat) (fun x => (x : Int) ≤ w) (fun x => w.toNat - x) (fun x => [.ptr 0 0, .int .i64 base, .junk, .junk, .junk, .junk, .junk, .ptr 6 0, .ptr 7 0, .ptr 8 0, .junk, .junk, .int .i64 l, .int .i64 y, .bool false, .junk, .int .i64 x, .junk, .junk, .junk, .junk, .junk, .junk, .junk, .junk, .junk, .junk, .junk, .junk, .junk, .junk, .junk, .junk, .junk, .junk, .junk, .junk, .junk, .junk, .junk, .junk, .junk, .junk, .junk, .junk, .junk, .junk, .junk, .junk, .junk, .junk, .junk, .junk, .junk, .junk, .junk, .junk, .junk, .junk, .junk, .junk, .junk, .junk, .junk, .junk, .junk, .junk, .junk, .junk, .junk, .junk, .junk, .junk, .junk, .junk, .junk, .junk, .junk, .junk, .junk, .junk, .junk, .junk, .junk, .junk, .junk, .junk, .junk, .junk, .junk, .junk, .junk, .junk, .junk, .junk, .junk, .junk, .junk, .junk, .junk])
          (fun x => r8L (encAll e (mv base ((List.range y).flatMap (rowEv t dx dy true w v p w' v' q) ++ headEv t dx dy true w v p w' v' q y ++ (List.range x).flatMap (pixEv t dx dy true w v p w' v' q y)))) t dx dy true kd w v w' v' p q) 0 (by omega) ⟨[9, 6, 7, 8], ?_⟩ ?_
        · simp only [leR, r8L, List.range_zero, List.flatMap_nil, List.append_nil, hh]
          simp [ren, rens, sg, sig, okIn, okIns, exK, leK, leF, leV, matK, objM, renO, roSame, lh, born, AObj.born, AObj.live, injOk, kindOf, rens_ints, okIns_ints, List.range, List.range.loop, mrg, mset, leF, leV, leK, rEncC_rens, rEncC_okIns, rEncC_inj]
        intro x hx
        obtain ⟨q1, q2, q3, q4⟩ := encMv he hN (part_okEv (dx := dx) (dy := dy) (ty := true) (w := w) (v := v) (w' := w') (v' := v') ho.1 hp hq y y x) (part_lenEv s1 y y x (by omega) (by omega))
        generalize hEx : encAll e (mv base ((List.range y).flatMap (rowEv t dx dy true w v p w' v' q) ++ headEv t dx dy true w v p w' v' q y ++ (List.range x).flatMap (pixEv t dx dy true w v p w' v' q y))) = E at q1 q2 q3 q4
        simp only [r8L, hEx]
        simp (maxSteps := 2000000) only [↓vP0, vQ0, vT0, simprocAttr]
        (with_reducible first | refine condK_dec (fun h => ?_) (fun h => ?_) | refine condK_beq (fun h => ?_) (fun h => ?_) | refine condK_bne (fun h => ?_) (fun h => ?_) | refine condK_intro (fun h => ?_) (fun h => ?_))
        · have hxs : Small (x : Int) := ⟨by omega, by omega⟩
          simp (maxSteps := 2000000) only [↓vP0, vQ0, vT0, simprocAttr]
          refine callK_read (c_rAlike t dx dy true kd ho.2.2 w' v' q hr x y hxs hys) [4] ?_ ?_ ?_ rfl ?_
          · simp [ren, rens, sg, sig, okIn, okIns, exK, leK, leF, leV, matK, objM, renO, roSame, lh, born, AObj.born, AObj.live, injOk, kindOf, rens_ints, okIns_ints, List.range, List.range.loop, mrg, mset]
          · simp [ren, rens, sg, sig, okIn, okIns, exK, leK, leF, leV, matK, objM, renO, roSame, lh, born, AObj.born, AObj.live, injOk, kindOf, rens_ints, okIns_ints, List.range, List.range.loop, mrg, mset]
          · simp [ren, rens, sg, sig, okIn, okIns, exK, leK, leF, leV, matK, objM, renO, roSame, lh, born, AObj.born, AObj.live, injOk, kindOf, rens_ints, okIns_ints, List.range, List.range.loop, mrg, mset]
          simp (maxSteps := 2000000) only [↓vP0, vQ0, vT0, simprocAttr]
          refine drawK_of tyok rfl (usL [[], [], [], [], [], [], [], [], [], [7]]) (fun i => if i = 7 then .below 9 else .below 0) (by kernel_rfl) ?_
          simp (maxSteps := 2000000) only [↓vP0, vQ0, vT0, simprocAttr]
          refine callK_read (c_rContext t ho.1 dx dy true kd ho.2.2 w v w' v' p q hb hr hp hq x y hxs hys) [3, 4] ?_ ?_ ?_ rfl ?_
          · simp [ren, rens, sg, sig, okIn, okIns, exK, leK, leF, leV, matK, objM, renO, roSame, lh, born, AObj.born, AObj.live, injOk, kindOf, rens_ints, okIns_ints, List.range, List.range.loop, mrg, mset]
          · simp [ren, rens, sg, sig, okIn, okIns, exK, leK, leF, leV, matK, objM, renO, roSame, lh, born, AObj.born, AObj.live, injOk, kindOf, rens_ints, okIns_ints, List.range, List.range.loop, mrg, mset]
          · simp [ren, rens, sg, sig, okIn, okIns, exK, leK, leF, leV, matK, objM, renO, roSame, lh, born, AObj.born, AObj.live, injOk, kindOf, rens_ints, okIns_ints, List.range, List.range.loop, mrg, mset]
          simp (maxSteps := 2000000) only [↓vP0, vQ0, vT0, simprocAttr]
          refine callK_read (c_rPix w v p hb x y) [3] ?_ ?_ ?_ rfl ?_
          · simp [ren, rens, sg, sig, okIn, okIns, exK, leK, leF, leV, matK, objM, renO, roSame, lh, born, AObj.born, AObj.live, injOk, kindOf, rens_ints, okIns_ints, List.range, List.range.loop, mrg, mset]
          · simp [ren, rens, sg, sig, okIn, okIns, exK, leK, leF, leV, matK, objM, renO, roSame, lh, born, AObj.born, AObj.live, injOk, kindOf, rens_ints, okIns_ints, List.range, List.range.loop, mrg, mset]
          · simp [ren, rens, sg, sig, okIn, okIns, exK, leK, leF, leV, matK, objM, renO, roSame, lh, born, AObj.born, AObj.live, injOk, kindOf, rens_ints, okIns_ints, List.range, List.range.loop, mrg, mset]
          obtain ⟨cb0, cb1⟩ := ctx_bd (w := w) (v := v) (w' := w') (v' := v') hp hq t dx dy x y ho.1
          obtain ⟨c, hc⟩ : ∃ c : Nat, ctxOf t dx dy w v p w' v' q x y = (c : Int) := ⟨_, (Int.toNat_of_nonneg cb0).symm⟩
          have hcs : (c : Int) + 1 ≤ sizeN t := by
            rw [hc] at cb1; unfold sizeN; split <;> simp_all <;> omega
          have hpw : IntKind.i64.wrap (pixAt w v p x y) = pixAt w v p x y := by
            have := pix01 hp w v x y
            simp (disch := omega) only [wr64, wru64, wru8, tdv, tmd, fdv]
          rw [hc]
          simp (maxSteps := 2000000) only [↓vP0, vQ0, vT0, simprocAttr, hpw]
          simp (disch := omega) only [wr64, wru64, wru8, tdv, tmd, fdv]
          rw [← Int.natCast_add]
          refine callK_det (c_rPut E q1 (base + c) (by omega) _ (pix01 hp w v x y) (by omega)) [0, 1, 5] ?_ ?_ ?_ rfl (by simp [rEncL, rEncM]) ?_
          · simp [ren, rens, sg, sig, okIn, okIns, exK, leK, leF, leV, matK, objM, renO, roSame, lh, born, AObj.born, AObj.live, injOk, kindOf, rens_ints, okIns_ints, List.range, List.range.loop, mrg, mset]
          · simp [ren, rens, sg, sig, okIn, okIns, exK, leK, leF, leV, matK, objM, renO, roSame, lh, born, AObj.born, AObj.live, injOk, kindOf, rens_ints, okIns_ints, List.range, List.range.loop, mrg, mset, rEncL]
          · simp [ren, rens, sg, sig, okIn, okIns, exK, leK, leF, leV, matK, objM, renO, roSame, lh, born, AObj.born, AObj.live, injOk, kindOf, rens_ints, okIns_ints, List.range, List.range.loop, mrg, mset, rEncL, rEncC_rens, rEncC_okIns, rEncC_inj]
          simp only [rEncL, rEncM]
          simp (maxSteps := 2000000) only [↓vP0, vQ0, vT0, simprocAttr, rEncC_rens]
          simp (disch := omega) only [wr64, wru64, wru8, tdv, tmd, fdv]
          have hpe : pixEv t dx dy true w v p w' v' q y x = [(c, pixAt w v p x y)] := by simp [pixEv, hc, hrow]
          have hnx : encAll e (mv base ((List.range y).flatMap (rowEv t dx dy true w v p w' v' q) ++ headEv t dx dy true w v p w' v' q y ++ (List.range (x + 1)).flatMap (pixEv t dx dy true w v p w' v' q y))) = E.put (base + c) (pixAt w v p x y) := by
            rw [range_flat_succ, ← List.append_assoc, hpe, encSnoc, hEx]
          refine ⟨x + 1, by omega, by omega, [9, 6, 7, 8], ?_⟩
          simp only [leR, hnx, Int.natCast_add, Int.cast_ofNat_Int]
          simp [ren, rens, sg, sig, okIn, okIns, exK, leK, leF, leV, matK, objM, renO, roSame, lh, born, AObj.born, AObj.live, injOk, kindOf, rens_ints, okIns_ints, List.range, List.range.loop, mrg, mset, leF, leV, leK, rEncC_rens, rEncC_okIns, rEncC_inj]
        · have hxw : x = w.toNat := by omega
          subst hxw
          simp (maxSteps := 2000000) only [↓vP0, vQ0, vT0, simprocAttr]
          simp (disch := omega) only [wr64, wru64, wru8, tdv, tmd, fdv]
          have hny : encAll e (mv base ((List.range (y + 1)).flatMap (rowEv t dx dy true w v p w' v' q))) = E := by
            rw [range_flat_succ, show rowEv t dx dy true w v p w' v' q y = headEv t dx dy true w v p w' v' q y ++ (List.range w.toNat).flatMap (pixEv t dx dy true w v p w' v' q y) from rfl, ← List.append_assoc, hEx]
          refine ⟨y + 1, by omega, by omega, [5, 6, 7, 8], ?_⟩
          simp only [leR, r8L, hny, hl1, Int.natCast_add, Int.cast_ofNat_Int]
          simp [ren, rens, sg, sig, okIn, okIns, exK, leK, leF, leV, matK, objM, renO, roSame, lh, born, AObj.born, AObj.live, injOk, kindOf, rens_ints, okIns_ints, List.range, List.range.loop, mrg, mset, leF, leV, leK, rEncC_rens, rEncC_okIns, rEncC_inj]
    | false =>
      simp (maxSteps := 2000000) only [↓vP0, vQ0, vT0, simprocAttr]
      refine loopK_ren tyok hD (α := Nat) (fun x => (x : Int) ≤ w) (fun x => w.toNat - x) (fun x => [.ptr 0 0, .int .i64 base, .junk, .junk, .junk, .junk, .junk, .ptr 6 0, .ptr 7 0, .ptr 8 0, .junk, .junk, .int .i64 ((base : Int) + sizeN t - 1), .int .i64 y, .bool false, .junk, .int .i64 x, .junk, .junk, .junk, .junk, .junk, .junk, .junk, .junk, .junk, .junk, .junk, .junk, .junk, .junk, .junk, .junk, .junk, .junk, .junk, .junk, .junk, .junk, .junk, .junk, .junk, .junk, .junk, .junk, .junk, .junk, .junk, .junk, .junk, .junk, .junk, .junk, .junk, .junk, .junk, .junk, .junk, .junk, .junk, .junk, .junk, .junk, .junk, .junk, .junk, .junk, .junk, .junk, .junk, .junk, .junk, .junk, .junk, .junk, .junk, .junk, .junk, .junk, .junk, .junk, .junk, .junk, .junk, .junk, .junk, .junk, .junk, .junk, .junk, .junk, .junk, .junk, .junk, .junk, .junk, .junk, .junk, .junk, .junk])
        (fun x => r8L (encAll e (mv base ((List.range y).flatMap (rowEv t dx dy false w v p w' v' q) ++ headEv t dx dy false w v p w' v' q y ++ (List.range x).flatMap (pixEv t dx dy false w v p w' v' q y)))) t dx dy false kd w v w' v' p q) 0 (by omega) ⟨[5, 6, 7, 8], ?_⟩ ?_
      · simp only [leR, r8L, List.range_zero, List.flatMap_nil, List.append_nil, headEv, Bool.false_eq_true, if_false]
        simp [ren, rens, sg, sig, okIn, okIns, exK, leK, leF, leV, matK, objM, renO, roSame, lh, born, AObj.born, AObj.live, injOk, kindOf, rens_ints, okIns_ints, List.range, List.range.loop, mrg, mset, leF, leV, leK, rEncC_rens, rEncC_okIns, rEncC_inj]
      intro x hx
      have hN : base + (sizeN t).toNat ≤ e.st.length := by omega
      obtain ⟨q1, q2, q3, q4⟩ := encMv he hN (part_okEv (dx := dx) (dy := dy) (ty := false) (w := w) (v := v) (w' := w') (v' := v') ho.1 hp hq y y x) (part_lenEv s1 y y x (by omega) (by omega))
      generalize hEx : encAll e (mv base ((List.range y).flatMap (rowEv t dx dy false w v p w' v' q) ++ headEv t dx dy false w v p w' v' q y ++ (List.range x).flatMap (pixEv t dx dy false w v p w' v' q y))) = E at q1 q2 q3 q4
      simp only [r8L, hEx]
      simp (maxSteps := 2000000) only [↓vP0, vQ0, vT0, simprocAttr]
      (with_reducible first | refine condK_dec (fun h => ?_) (fun h => ?_) | refine condK_beq (fun h => ?_) (fun h => ?_) | refine condK_bne (fun h => ?_) (fun h => ?_) | refine condK_intro (fun h => ?_) (fun h => ?_))
      · have hxs : Small (x : Int) := ⟨by omega, by omega⟩
        simp (maxSteps := 2000000) only [↓vP0, vQ0, vT0, simprocAttr]
        refine callK_read (c_rAlike t dx dy false kd ho.2.2 w' v' q hr x y hxs hys) [4] ?_ ?_ ?_ rfl ?_
        · simp [ren, rens, sg, sig, okIn, okIns, exK, leK, leF, leV, matK, objM, renO, roSame, lh, born, AObj.born, AObj.live, injOk, kindOf, rens_ints, okIns_ints, List.range, List.range.loop, mrg, mset]
        · simp [ren, rens, sg, sig, okIn, okIns, exK, leK, leF, leV, matK, objM, renO, roSame, lh, born, AObj.born, AObj.live, injOk, kindOf, rens_ints, okIns_ints, List.range, List.range.loop, mrg, mset]
        · simp [ren, rens, sg, sig, okIn, okIns, exK, leK, leF, leV, matK, objM, renO, roSame, lh, born, AObj.born, AObj.live, injOk, kindOf, rens_ints, okIns_ints, List.range, List.range.loop, mrg, mset]
        simp (maxSteps := 2000000) only [↓vP0, vQ0, vT0, simprocAttr]
        refine drawK_of tyok rfl (usL [[], [], [], [], [], [], [], [], [], [7]]) (fun i => if i = 7 then .below 9 else .below 0) (by kernel_rfl) ?_
        simp (maxSteps := 2000000) only [↓vP0, vQ0, vT0, simprocAttr]
        refine callK_read (c_rContext t ho.1 dx dy false kd ho.2.2 w v w' v' p q hb hr hp hq x y hxs hys) [3, 4] ?_ ?_ ?_ rfl ?_
        · simp [ren, rens, sg, sig, okIn, okIns, exK, leK, leF, leV, matK, objM, renO, roSame, lh, born, AObj.born, AObj.live, injOk, kindOf, rens_ints, okIns_ints, List.range, List.range.loop, mrg, mset]
        · simp [ren, rens, sg, sig, okIn, okIns, exK, leK, leF, leV, matK, objM, renO, roSame, lh, born, AObj.born, AObj.live, injOk, kindOf, rens_ints, okIns_ints, List.range, List.range.loop, mrg, mset]
        · simp [ren, rens, sg, sig, okIn, okIns, exK, leK, leF, leV, matK, objM, renO, roSame, lh, born, AObj.born, AObj.live, injOk, kindOf, rens_ints, okIns_ints, List.range, List.range.loop, mrg, mset]
        simp (maxSteps := 2000000) only [↓vP0, vQ0, vT0, simprocAttr]
        refine callK_read (c_rPix w v p hb x y) [3] ?_ ?_ ?_ rfl ?_
        · simp [ren, rens, sg, sig, okIn, okIns, exK, leK, leF, leV, matK, objM, renO, roSame, lh, born, AObj.born, AObj.live, injOk, kindOf, rens_ints, okIns_ints, List.range, List.range.loop, mrg, mset]
        · simp [ren, rens, sg, sig, okIn, okIns, exK, leK, leF, leV, matK, objM, renO, roSame, lh, born, AObj.born, AObj.live, injOk, kindOf, rens_ints, okIns_ints, List.range, List.range.loop, mrg, mset]
        · simp [ren, rens, sg, sig, okIn, okIns, exK, leK, leF, leV, matK, objM, renO, roSame, lh, born, AObj.born, AObj.live, injOk, kindOf, rens_ints, okIns_ints, List.range, List.range.loop, mrg, mset]
        obtain ⟨cb0, cb1⟩ := ctx_bd (w := w) (v := v) (w' := w') (v' := v') hp hq t dx dy x y ho.1
        obtain ⟨c, hc⟩ : ∃ c : Nat, ctxOf t dx dy w v p w' v' q x y = (c : Int) := ⟨_, (Int.toNat_of_nonneg cb0).symm⟩
        have hcs : (c : Int) + 1 ≤ sizeN t := by
          rw [hc] at cb1; unfold sizeN; split <;> simp_all <;> omega
        have hpw : IntKind.i64.wrap (pixAt w v p x y) = pixAt w v p x y := by
          have := pix01 hp w v x y
          simp (disch := omega) only [wr64, wru64, wru8, tdv, tmd, fdv]
        rw [hc]
        simp (maxSteps := 2000000) only [↓vP0, vQ0, vT0, simprocAttr, hpw]
        simp (disch := omega) only [wr64, wru64, wru8, tdv, tmd, fdv]
        rw [← Int.natCast_add]
        refine callK_det (c_rPut E q1 (base + c) (by omega) _ (pix01 hp w v x y) (by omega)) [0, 1, 5] ?_ ?_ ?_ rfl (by simp [rEncL, rEncM]) ?_
        · simp [ren, rens, sg, sig, okIn, okIns, exK, leK, leF, leV, matK, objM, renO, roSame, lh, born, AObj.born, AObj.live, injOk, kindOf, rens_ints, okIns_ints, List.range, List.range.loop, mrg, mset]
        · simp [ren, rens, sg, sig, okIn, okIns, exK, leK, leF, leV, matK, objM, renO, roSame, lh, born, AObj.born, AObj.live, injOk, kindOf, rens_ints, okIns_ints, List.range, List.range.loop, mrg, mset, rEncL]
        · simp [ren, rens, sg, sig, okIn, okIns, exK, leK, leF, leV, matK, objM, renO, roSame, lh, born, AObj.born, AObj.live, injOk, kindOf, rens_ints, okIns_ints, List.range, List.range.loop, mrg, mset, rEncL, rEncC_rens, rEncC_okIns, rEncC_inj]
        simp only [rEncL, rEncM]
        simp (maxSteps := 2000000) only [↓vP0, vQ0, vT0, simprocAttr, rEncC_rens]
        simp (disch := omega) only [wr64, wru64, wru8, tdv, tmd, fdv]
        have hpe : pixEv t dx dy false w v p w' v' q y x = [(c, pixAt w v p x y)] := by simp [pixEv, hc]
        have hnx : encAll e (mv base ((List.range y).flatMap (rowEv t dx dy false w v p w' v' q) ++ headEv t dx dy false w v p w' v' q y ++ (List.range (x + 1)).flatMap (pixEv t dx dy false w v p w' v' q y))) = E.put (base + c) (pixAt w v p x y) := by
          rw [range_flat_succ, ← List.append_assoc, hpe, encSnoc, hEx]
        refine ⟨x + 1, by omega, by omega, [9, 6, 7, 8], ?_⟩
        simp only [leR, hnx, Int.natCast_add, Int.cast_ofNat_Int]
        simp [ren, rens, sg, sig, okIn, okIns, exK, leK, leF, leV, matK, objM, renO, roSame, lh, born, AObj.born, AObj.live, injOk, kindOf, rens_ints, okIns_ints, List.range, List.range.loop, mrg, mset, leF, leV, leK, rEncC_rens, rEncC_okIns, rEncC_inj]
      · have hxw : x = w.toNat := by omega
        subst hxw
        simp (maxSteps := 2000000) only [↓vP0, vQ0, vT0, simprocAttr]
        simp (disch := omega) only [wr64, wru64, wru8, tdv, tmd, fdv]
        have hny : encAll e (mv base ((List.range (y + 1)).flatMap (rowEv t dx dy false w v p w' v' q))) = E := by
          rw [range_flat_succ, show rowEv t dx dy false w v p w' v' q y = headEv t dx dy false w v p w' v' q y ++ (List.range w.toNat).flatMap (pixEv t dx dy false w v p w' v' q y) from rfl, ← List.append_assoc, hEx]
        refine ⟨y + 1, by omega, by omega, [5, 6, 7, 8], ?_⟩
        simp only [leR, r8L, hny, Int.natCast_add, Int.cast_ofNat_Int]
        simp [ren, rens, sg, sig, okIn, okIns, exK, leK, leF, leV, matK, objM, renO, roSame, lh, born, AObj.born, AObj.live, injOk, kindOf, rens_ints, okIns_ints, List.range, List.range.loop, mrg, mset, leF, leV, leK, rEncC_rens, rEncC_okIns, rEncC_inj]
  · have hyv : y = v.toNat := by omega
    subst hyv
    simp (maxSteps := 2000000) only [↓vP0, vQ0, vT0, simprocAttr]
    rw [show (List.range v.toNat).flatMap (rowEv t dx dy ty w v p w' v' q) = refEv t dx dy ty w v p w' v' q from rfl, ← hE']
    refine exit_of [5] (.int .i64 0) [.own (rEncC E' 1 5) 132, .own (ints .i64 E'.st) 3, .dead, .ro (ints .u8 p) 5, .ro (ints .u8 q) 5, .own (ints .u8 E'.out) 5] ⟨rfl, rfl⟩ ?_ ?_ rfl ?_ ?_
    all_goals simp [ren, rens, sg, sig, okIn, okIns, exK, leK, leF, leV, matK, objM, renO, roSame, lh, born, AObj.born, AObj.live, injOk, kindOf, rens_ints, okIns_ints, List.range, List.range.loop, mrg, mset, rEncC, rEncL]
end Go.Proofs.Ytbfefpkhalegmaa

set_option linter.unusedVariables false
set_option linter.unusedSimpArgs false
namespace Go.Proofs.Ytbfefpkhalegmaa
open Go
set_option maxHeartbeats 4000000
set_option maxRecDepth 20000

theorem c_context (t : Int) (ht : t = 0 ∨ t = 1) (dx dy : Int) (ty : Bool) (kd : Int) (ho : OffOk dx dy) (w v w' v' : Int) (p q : List Int) (hb : BmOk w v p) (hr : BmOk w' v' q) (hp : PixOk p) (hq : PixOk q) (x y : Int) (hx : Small x) (hy : Small y) :
    LCall Try.prog 91 [.ptr 0 0, .int .i64 x, .int .i64 y] (regL t dx dy ty kd w v w' v' p q) fun r L =>
      r = .int .i64 (ctxOf t dx dy w v p w' v' q x y) ∧ L = regL t dx dy ty kd w v w' v' p q := by
  rcases ht with rfl | rfl
  · exact c_context0 dx dy ty kd ho w v w' v' p q hb hr hp hq x y hx hy
  · exact c_context1 dx dy ty kd ho w v w' v' p q hb hr hp hq x y hx hy
abbrev p8L (E : Enc) (t dx dy : Int) (ty : Bool) (kd w v w' v' : Int) (p q : List Int) : List AObj :=
  [.own (pEncC E 1 5) 126, .own (ints .i64 E.st) 3, .dead, .ro (ints .u8 p) 5, .ro (ints .u8 q) 5, .own (ints .u8 E.out) 5, optC t dx dy ty kd, bmC w v 3 p.length, bmC w' v' 4 q.length, .own (regC t dx dy ty kd w v w' v' 3 p.length 4 q.length) 142]
theorem c_p8PutErr (e : Enc) (base : Int) (hbase : I64 base) (t dx dy : Int) (hx : I64 dx) (hy : I64 dy) (ty : Bool) (kd : Int) (w v w' v' : Int) (p q : List Int) (hp : p.length ≤ 9223372036854775807) (hq : q.length ≤ 9223372036854775807) (hl : e.st.length ≤ 8192)
    (hne : askErr t dx dy kd (bmB w v p && bmB w' v' q) base e.st.length ≠ 0) :
    LCall Try.prog 38 [.ptr 0 0, .int .i64 base, optV t dx dy ty kd, bmV w v 3 p.length, bmV w' v' 4 q.length] (pEncL e ++ pix2L p q) fun r L =>
      r = .int .i64 (askErr t dx dy kd (bmB w v p && bmB w' v' q) base e.st.length) ∧ L = pEncL e ++ pix2L p q := by
  have hkeep : keepL 5 (pEncL e ++ pix2L p q) (pEncL e ++ pix2L p q) := by simp [pEncL, pEncC_okIns, keepL, keepO, okIns, okIn, okIns_ints]
  refine lcall_of_vc tyok Try.func38 rfl (by rfl) Try.results38 Try.ntmps38 ?_; intro C hD
  simp only [pEncL] at hD ⊢
  simp (maxSteps := 2000000) only [↓vP0, vQ0, vT0, simprocAttr]
  refine callK_read (c_pPutBad e) [0, 1, 2] ?_ ?_ ?_ rfl ?_
  · simp [ren, rens, sg, sig, okIn, okIns, exK, leK, leF, leV, matK, objM, renO, roSame, lh, born, AObj.born, AObj.live, injOk, kindOf, rens_ints, okIns_ints, List.range, List.range.loop, mrg, mset]
  · simp [ren, rens, sg, sig, okIn, okIns, exK, leK, leF, leV, matK, objM, renO, roSame, lh, born, AObj.born, AObj.live, injOk, kindOf, rens_ints, okIns_ints, List.range, List.range.loop, mrg, mset, pEncR]
  · simp [ren, rens, sg, sig, okIn, okIns, exK, leK, leF, leV, matK, objM, renO, roSame, lh, born, AObj.born, AObj.live, injOk, kindOf, rens_ints, okIns_ints, List.range, List.range.loop, mrg, mset, pEncR, pEncC_rens, pEncC_okIns, pEncC_inj]
  simp (maxSteps := 2000000) only [↓vP0, vQ0, vT0, simprocAttr]
  refine callK_pure (c_pRefValid t dx dy hx hy ty kd) rfl rfl ?_
  by_cases ho : OptOk t dx dy kd
  case neg =>
    simp (maxSteps := 2000000) only [↓vP0, vQ0, vT0, simprocAttr, dN ho]
    exact exit_keep (L1 := pEncL e ++ pix2L p q) ⟨by rw [askErr, if_pos ho], rfl⟩ trivial hkeep
  case pos =>
    simp (maxSteps := 2000000) only [↓vP0, vQ0, vT0, simprocAttr, dT ho]
    refine callK_read (c_pBmValid w v p hp) [3] ?_ ?_ ?_ rfl ?_
    · simp [ren, rens, sg, sig, okIn, okIns, exK, leK, leF, leV, matK, objM, renO, roSame, lh, born, AObj.born, AObj.live, injOk, kindOf, rens_ints, okIns_ints, List.range, List.range.loop, mrg, mset]
    · simp [ren, rens, sg, sig, okIn, okIns, exK, leK, leF, leV, matK, objM, renO, roSame, lh, born, AObj.born, AObj.live, injOk, kindOf, rens_ints, okIns_ints, List.range, List.range.loop, mrg, mset]
    · simp [ren, rens, sg, sig, okIn, okIns, exK, leK, leF, leV, matK, objM, renO, roSame, lh, born, AObj.born, AObj.live, injOk, kindOf, rens_ints, okIns_ints, List.range, List.range.loop, mrg, mset]
    cases hb1 : bmB w v p with
    | false =>
      simp (maxSteps := 2000000) only [↓vP0, vQ0, vT0, simprocAttr]
      exact exit_keep (L1 := pEncL e ++ pix2L p q) ⟨by rw [askErr, if_neg (not_not_intro ho), Bool.false_and, if_pos rfl], rfl⟩ trivial hkeep
    | true =>
      simp (maxSteps := 2000000) only [↓vP0, vQ0, vT0, simprocAttr]
      refine callK_read (c_pBmValid w' v' q hq) [4] ?_ ?_ ?_ rfl ?_
      · simp [ren, rens, sg, sig, okIn, okIns, exK, leK, leF, leV, matK, objM, renO, roSame, lh, born, AObj.born, AObj.live, injOk, kindOf, rens_ints, okIns_ints, List.range, List.range.loop, mrg, mset]
      · simp [ren, rens, sg, sig, okIn, okIns, exK, leK, leF, leV, matK, objM, renO, roSame, lh, born, AObj.born, AObj.live, injOk, kindOf, rens_ints, okIns_ints, List.range, List.range.loop, mrg, mset]
      · simp [ren, rens, sg, sig, okIn, okIns, exK, leK, leF, leV, matK, objM, renO, roSame, lh, born, AObj.born, AObj.live, injOk, kindOf, rens_ints, okIns_ints, List.range, List.range.loop, mrg, mset]
      cases hr1 : bmB w' v' q with
      | false =>
        simp (maxSteps := 2000000) only [↓vP0, vQ0, vT0, simprocAttr]
        exact exit_keep (L1 := pEncL e ++ pix2L p q) ⟨by rw [askErr, if_neg (not_not_intro ho), Bool.and_false, if_pos rfl], rfl⟩ trivial hkeep
      | true =>
        simp (maxSteps := 2000000) only [↓vP0, vQ0, vT0, simprocAttr]
        refine drawK_of tyok rfl (usL [[], [], [], [1]]) (fun i => .below 8) (by kernel_rfl) ?_
        simp (maxSteps := 2000000) only [↓vP0, vQ0, vT0, simprocAttr]
        refine callK_det (c_pModel e hl) [0, 1, 2] ?_ ?_ ?_ rfl (by simp [pEncR]) ?_
        · simp [ren, rens, sg, sig, okIn, okIns, exK, leK, leF, leV, matK, objM, renO, roSame, lh, born, AObj.born, AObj.live, injOk, kindOf, rens_ints, okIns_ints, List.range, List.range.loop, mrg, mset]
        · simp [ren, rens, sg, sig, okIn, okIns, exK, leK, leF, leV, matK, objM, renO, roSame, lh, born, AObj.born, AObj.live, injOk, kindOf, rens_ints, okIns_ints, List.range, List.range.loop, mrg, mset, pEncR]
        · simp [ren, rens, sg, sig, okIn, okIns, exK, leK, leF, leV, matK, objM, renO, roSame, lh, born, AObj.born, AObj.live, injOk, kindOf, rens_ints, okIns_ints, List.range, List.range.loop, mrg, mset, pEncR, pEncC_rens, pEncC_okIns, pEncC_inj]
        simp only [pEncR]
        simp (maxSteps := 2000000) only [↓vP0, vQ0, vT0, simprocAttr, pEncC_rens]
        refine callK_read (c_refFits t dx dy ho.1 ty kd base e.kd e.st hl) [8] ?_ ?_ ?_ rfl ?_
        · simp [ren, rens, sg, sig, okIn, okIns, exK, leK, leF, leV, matK, objM, renO, roSame, lh, born, AObj.born, AObj.live, injOk, kindOf, rens_ints, okIns_ints, List.range, List.range.loop, mrg, mset]
        · simp [ren, rens, sg, sig, okIn, okIns, exK, leK, leF, leV, matK, objM, renO, roSame, lh, born, AObj.born, AObj.live, injOk, kindOf, rens_ints, okIns_ints, List.range, List.range.loop, mrg, mset]
        · simp [ren, rens, sg, sig, okIn, okIns, exK, leK, leF, leV, matK, objM, renO, roSame, lh, born, AObj.born, AObj.live, injOk, kindOf, rens_ints, okIns_ints, List.range, List.range.loop, mrg, mset]
        have e0 : decide (0 ≤ base ∧ base ≤ (e.st.length : Int) - sizeN t) = false := by
          refine dN fun hh => hne ?_
          rw [hb1, hr1, askErr, if_neg (not_not_intro ho), if_neg (by simp), if_neg (by omega)]
        simp (maxSteps := 2000000) only [↓vP0, vQ0, vT0, simprocAttr, e0]
        refine exit_keep (L1 := pEncL e ++ pix2L p q) ⟨?_, rfl⟩ trivial hkeep
        rw [hb1, hr1, askErr, if_neg (not_not_intro ho), if_neg (by simp)] at hne
        rw [askErr, if_neg (not_not_intro ho), if_neg (by simp)]
        split at hne
        · rename_i hc; rw [if_pos hc]
        · exact absurd rfl hne
theorem c_p8Put (e : Enc) (he : e.Ok) (base : Nat) (t dx dy : Int) (ty : Bool) (kd : Int) (ho : OptOk t dx dy kd) (w v w' v' : Int) (p q : List Int) (hb : BmOk w v p) (hr : BmOk w' v' q) (hp : PixOk p) (hq : PixOk q)
    (hb1 : bmB w v p = true) (hr1 : bmB w' v' q = true) (hbase : (base : Int) ≤ e.st.length - sizeN t) (hl : e.st.length ≤ 8192) (hout : e.out.length ≤ 1000000000000) (E' : Enc) (hE' : E' = encAll e (mv base (refEv t dx dy ty w v p w' v' q))) :
    LCall Try.prog 38 [.ptr 0 0, .int .i64 base, optV t dx dy ty kd, bmV w v 3 p.length, bmV w' v' 4 q.length] (pEncL e ++ pix2L p q) fun r L =>
      r = .int .i64 0 ∧ L = [.own (pEncC E' 1 5) 126, .own (ints .i64 E'.st) 3, .dead, .ro (ints .u8 p) 5, .ro (ints .u8 q) 5, .own (ints .u8 E'.out) 5] := by
  have hs0 : sizeN t = 513 ∨ sizeN t = 129 := by unfold sizeN; split <;> simp
  have hN : base + (sizeN t).toNat ≤ e.st.length := by omega
  have hcx : (if t = 0 then 512 else 128 : Int) = sizeN t - 1 := by unfold sizeN; split <;> rfl
  obtain ⟨⟨s0, s1, s2, s3, s4⟩, s5⟩ := id hb
  have hpl := bmOk_len hb
  have hql := bmOk_len hr
  refine lcall_of_vc tyok Try.func38 rfl (by rfl) Try.results38 Try.ntmps38 ?_; intro C hD
  simp only [pEncL] at hD ⊢
  simp (maxSteps := 2000000) only [↓vP0, vQ0, vT0, simprocAttr]
  refine callK_read (c_pPutBad e) [0, 1, 2] ?_ ?_ ?_ rfl ?_
  · simp [ren, rens, sg, sig, okIn, okIns, exK, leK, leF, leV, matK, objM, renO, roSame, lh, born, AObj.born, AObj.live, injOk, kindOf, rens_ints, okIns_ints, List.range, List.range.loop, mrg, mset]
  · simp [ren, rens, sg, sig, okIn, okIns, exK, leK, leF, leV, matK, objM, renO, roSame, lh, born, AObj.born, AObj.live, injOk, kindOf, rens_ints, okIns_ints, List.range, List.range.loop, mrg, mset, pEncR]
  · simp [ren, rens, sg, sig, okIn, okIns, exK, leK, leF, leV, matK, objM, renO, roSame, lh, born, AObj.born, AObj.live, injOk, kindOf, rens_ints, okIns_ints, List.range, List.range.loop, mrg, mset, pEncR, pEncC_rens, pEncC_okIns, pEncC_inj]
  simp (maxSteps := 2000000) only [↓vP0, vQ0, vT0, simprocAttr]
  refine callK_pure (c_pRefValid t dx dy ⟨by omega, by omega⟩ ⟨by omega, by omega⟩ ty kd) rfl rfl ?_
  simp (maxSteps := 2000000) only [↓vP0, vQ0, vT0, simprocAttr, dT ho]
  refine callK_read (c_pBmValid w v p (by omega)) [3] ?_ ?_ ?_ rfl ?_
  · simp [ren, rens, sg, sig, okIn, okIns, exK, leK, leF, leV, matK, objM, renO, roSame, lh, born, AObj.born, AObj.live, injOk, kindOf, rens_ints, okIns_ints, List.range, List.range.loop, mrg, mset]
  · simp [ren, rens, sg, sig, okIn, okIns, exK, leK, leF, leV, matK, objM, renO, roSame, lh, born, AObj.born, AObj.live, injOk, kindOf, rens_ints, okIns_ints, List.range, List.range.loop, mrg, mset]
  · simp [ren, rens, sg, sig, okIn, okIns, exK, leK, leF, leV, matK, objM, renO, roSame, lh, born, AObj.born, AObj.live, injOk, kindOf, rens_ints, okIns_ints, List.range, List.range.loop, mrg, mset]
  rw [hb1]
  simp (maxSteps := 2000000) only [↓vP0, vQ0, vT0, simprocAttr]
  refine callK_read (c_pBmValid w' v' q (by omega)) [4] ?_ ?_ ?_ rfl ?_
  · simp [ren, rens, sg, sig, okIn, okIns, exK, leK, leF, leV, matK, objM, renO, roSame, lh, born, AObj.born, AObj.live, injOk, kindOf, rens_ints, okIns_ints, List.range, List.range.loop, mrg, mset]
  · simp [ren, rens, sg, sig, okIn, okIns, exK, leK, leF, leV, matK, objM, renO, roSame, lh, born, AObj.born, AObj.live, injOk, kindOf, rens_ints, okIns_ints, List.range, List.range.loop, mrg, mset]
  · simp [ren, rens, sg, sig, okIn, okIns, exK, leK, leF, leV, matK, objM, renO, roSame, lh, born, AObj.born, AObj.live, injOk, kindOf, rens_ints, okIns_ints, List.range, List.range.loop, mrg, mset]
  rw [hr1]
  simp (maxSteps := 2000000) only [↓vP0, vQ0, vT0, simprocAttr]
  refine drawK_of tyok rfl (usL [[], [], [], [1]]) (fun i => .below 8) (by kernel_rfl) ?_
  simp (maxSteps := 2000000) only [↓vP0, vQ0, vT0, simprocAttr]
  refine callK_det (c_pModel e hl) [0, 1, 2] ?_ ?_ ?_ rfl (by simp [pEncR]) ?_
  · simp [ren, rens, sg, sig, okIn, okIns, exK, leK, leF, leV, matK, objM, renO, roSame, lh, born, AObj.born, AObj.live, injOk, kindOf, rens_ints, okIns_ints, List.range, List.range.loop, mrg, mset]
  · simp [ren, rens, sg, sig, okIn, okIns, exK, leK, leF, leV, matK, objM, renO, roSame, lh, born, AObj.born, AObj.live, injOk, kindOf, rens_ints, okIns_ints, List.range, List.range.loop, mrg, mset, pEncR]
  · simp [ren, rens, sg, sig, okIn, okIns, exK, leK, leF, leV, matK, objM, renO, roSame, lh, born, AObj.born, AObj.live, injOk, kindOf, rens_ints, okIns_ints, List.range, List.range.loop, mrg, mset, pEncR, pEncC_rens, pEncC_okIns, pEncC_inj]
  simp only [pEncR]
  simp (maxSteps := 2000000) only [↓vP0, vQ0, vT0, simprocAttr, pEncC_rens]
  refine callK_read (c_refFits t dx dy ho.1 ty kd base e.kd e.st hl) [8] ?_ ?_ ?_ rfl ?_
  · simp [ren, rens, sg, sig, okIn, okIns, exK, leK, leF, leV, matK, objM, renO, roSame, lh, born, AObj.born, AObj.live, injOk, kindOf, rens_ints, okIns_ints, List.range, List.range.loop, mrg, mset]
  · simp [ren, rens, sg, sig, okIn, okIns, exK, leK, leF, leV, matK, objM, renO, roSame, lh, born, AObj.born, AObj.live, injOk, kindOf, rens_ints, okIns_ints, List.range, List.range.loop, mrg, mset]
  · simp [ren, rens, sg, sig, okIn, okIns, exK, leK, leF, leV, matK, objM, renO, roSame, lh, born, AObj.born, AObj.live, injOk, kindOf, rens_ints, okIns_ints, List.range, List.range.loop, mrg, mset]
  rw [dT (show 0 ≤ (base : Int) ∧ (base : Int) ≤ (e.st.length : Int) - sizeN t by omega)]
  simp (maxSteps := 2000000) only [↓vP0, vQ0, vT0, simprocAttr]
  refine callK_det (c_newRegion t dx dy ty kd w v w' v' p q) [3, 4] ?_ ?_ ?_ rfl (by simp) ?_
  · simp [ren, rens, sg, sig, okIn, okIns, exK, leK, leF, leV, matK, objM, renO, roSame, lh, born, AObj.born, AObj.live, injOk, kindOf, rens_ints, okIns_ints, List.range, List.range.loop, mrg, mset]
  · simp [ren, rens, sg, sig, okIn, okIns, exK, leK, leF, leV, matK, objM, renO, roSame, lh, born, AObj.born, AObj.live, injOk, kindOf, rens_ints, okIns_ints, List.range, List.range.loop, mrg, mset]
  · simp [ren, rens, sg, sig, okIn, okIns, exK, leK, leF, leV, matK, objM, renO, roSame, lh, born, AObj.born, AObj.live, injOk, kindOf, rens_ints, okIns_ints, List.range, List.range.loop, mrg, mset]
  simp (maxSteps := 2000000) only [↓vP0, vQ0, vT0, simprocAttr]
  refine loopK_ren tyok hD (α := Nat) (fun y => (y : Int) ≤ v) (fun y => v.toNat - y) (fun y => [.ptr 0 0, .int .i64 base, .junk, .junk, .junk, .junk, .junk, .ptr 6 0, .ptr 7 0, .ptr 8 0, .junk, .ptr 9 0, .junk, .junk, .junk, .junk, .junk, .junk, .junk, .junk, .junk, .junk, .junk, .junk, .junk, .junk, .junk, .junk, .junk, .junk, .junk, .junk, .junk, .junk, .junk, .junk, .junk, .junk, .junk, .junk, .junk, .junk, .junk, .junk, .junk, .junk, .junk, .junk, .junk, .junk, .junk, .junk, .int .i64 v, .int .i64 y, .junk, .junk, .junk, .junk, .junk, .junk, .junk, .junk, .junk, .junk, .junk, .junk, .junk, .junk, .junk, .junk, .junk, .junk, .junk, .junk, .junk, .junk, .junk, .junk, .junk, .junk, .junk, .junk, .junk, .junk, .junk, .junk, .junk, .junk, .junk, .junk, .junk, .junk, .junk, .junk, .junk, .junk, .junk, .junk, .junk, .junk, .junk, .junk, .junk, .junk, .junk, .junk, .junk, .junk, .junk, .junk])
    (fun y => p8L (encAll e (mv base ((List.range y).flatMap (rowEv t dx dy ty w v p w' v' q)))) t dx dy ty kd w v w' v' p q) 0 (by omega) ⟨[2, 5, 6, 7, 9], ?_⟩ ?_
  · simp only [leR, p8L, List.range_zero, List.flatMap_nil, mv, List.map_nil, encAll]
    simp [ren, rens, sg, sig, okIn, okIns, exK, leK, leF, leV, matK, objM, renO, roSame, lh, born, AObj.born, AObj.live, injOk, kindOf, rens_ints, okIns_ints, List.range, List.range.loop, mrg, mset, leF, leV, leK, pEncC_rens, pEncC_okIns, pEncC_inj]
  intro y hy
  simp only [p8L]
  simp (maxSteps := 2000000) only [↓vP0, vQ0, vT0, simprocAttr]
  (with_reducible first | refine condK_dec (fun h => ?_) (fun h => ?_) | refine condK_beq (fun h => ?_) (fun h => ?_) | refine condK_bne (fun h => ?_) (fun h => ?_) | refine condK_intro (fun h => ?_) (fun h => ?_))
  · have hys : Small y := ⟨by omega, by omega⟩
    cases ty with
    | false =>
      simp (maxSteps := 2000000) only [↓vP0, vQ0, vT0, simprocAttr]
      refine loopK_ren tyok hD (α := Nat) (fun x => (x : Int) ≤ w) (fun x => w.toNat - x) (fun x => [.ptr 0 0, .int .i64 base, .junk, .junk, .junk, .junk, .junk, .ptr 6 0, .ptr 7 0, .ptr 8 0, .junk, .ptr 9 0, .int .i64 y, .bool false, .junk, .junk, .junk, .junk, .junk, .junk, .junk, .junk, .junk, .junk, .junk, .junk, .junk, .junk, .junk, .junk, .junk, .junk, .junk, .junk, .junk, .junk, .junk, .junk, .junk, .junk, .junk, .junk, .junk, .junk, .junk, .junk, .junk, .junk, .junk, .junk, .junk, .junk, .int .i64 v, .int .i64 y, .junk, .junk, .junk, .junk, .junk, .junk, .junk, .junk, .junk, .junk, .junk, .junk, .junk, .junk, .junk, .junk, .junk, .junk, .junk, .junk, .junk, .int .i64 w, .int .i64 x, .junk, .junk, .junk, .junk, .junk, .junk, .junk, .junk, .junk, .junk, .junk, .junk, .junk, .junk, .junk, .junk, .junk, .junk, .junk, .junk, .junk, .junk, .junk, .junk, .junk, .junk, .junk, .junk, .junk, .junk, .junk, .junk, .junk])
        (fun x => p8L (encAll e (mv base ((List.range y).flatMap (rowEv t dx dy false w v p w' v' q) ++ headEv t dx dy false w v p w' v' q y ++ (List.range x).flatMap (pixEv t dx dy false w v p w' v' q y)))) t dx dy false kd w v w' v' p q) 0 (by omega) ⟨[5, 6, 7, 8, 9], ?_⟩ ?_
      · simp only [leR, p8L, List.range_zero, List.flatMap_nil, List.append_nil, headEv, Bool.false_eq_true, if_false]
        simp [ren, rens, sg, sig, okIn, okIns, exK, leK, leF, leV, matK, objM, renO, roSame, lh, born, AObj.born, AObj.live, injOk, kindOf, rens_ints, okIns_ints, List.range, List.range.loop, mrg, mset, leF, leV, leK, pEncC_rens, pEncC_okIns, pEncC_inj]
      intro x hx
      obtain ⟨q1, q2, q3, q4⟩ := encMv he hN (part_okEv (dx := dx) (dy := dy) (ty := false) (w := w) (v := v) (w' := w') (v' := v') ho.1 hp hq y y x) (part_lenEv s1 y y x (by omega) (by omega))
      generalize hEx : encAll e (mv base ((List.range y).flatMap (rowEv t dx dy false w v p w' v' q) ++ headEv t dx dy false w v p w' v' q y ++ (List.range x).flatMap (pixEv t dx dy false w v p w' v' q y))) = E at q1 q2 q3 q4
      simp only [p8L, hEx]
      simp (maxSteps := 2000000) only [↓vP0, vQ0, vT0, simprocAttr]
      (with_reducible first | refine condK_dec (fun h => ?_) (fun h => ?_) | refine condK_beq (fun h => ?_) (fun h => ?_) | refine condK_bne (fun h => ?_) (fun h => ?_) | refine condK_intro (fun h => ?_) (fun h => ?_))
      · have hxs : Small (x : Int) := ⟨by omega, by omega⟩
        simp (maxSteps := 2000000) only [↓vP0, vQ0, vT0, simprocAttr]
        refine callK_read (c_flat t dx dy false kd ho.2.2 w v w' v' p q hr x y hxs hys) [9, 3, 4] ?_ ?_ ?_ rfl ?_
        · simp [ren, rens, sg, sig, okIn, okIns, exK, leK, leF, leV, matK, objM, renO, roSame, lh, born, AObj.born, AObj.live, injOk, kindOf, rens_ints, okIns_ints, List.range, List.range.loop, mrg, mset]
        · simp [ren, rens, sg, sig, okIn, okIns, exK, leK, leF, leV, matK, objM, renO, roSame, lh, born, AObj.born, AObj.live, injOk, kindOf, rens_ints, okIns_ints, List.range, List.range.loop, mrg, mset]
        · simp [ren, rens, sg, sig, okIn, okIns, exK, leK, leF, leV, matK, objM, renO, roSame, lh, born, AObj.born, AObj.live, injOk, kindOf, rens_ints, okIns_ints, List.range, List.range.loop, mrg, mset]
        simp (maxSteps := 2000000) only [↓vP0, vQ0, vT0, simprocAttr]
        refine drawK_of tyok rfl (usL [[], [], [], [], [], [], [], [], [], [], [5]]) (fun i => if i = 5 then .below 10 else .below 0) (by kernel_rfl) ?_
        simp (maxSteps := 2000000) only [↓vP0, vQ0, vT0, simprocAttr]
        refine callK_read (c_context t ho.1 dx dy false kd ho.2.2 w v w' v' p q hb hr hp hq x y hxs hys) [9, 3, 4] ?_ ?_ ?_ rfl ?_
        · simp [ren, rens, sg, sig, okIn, okIns, exK, leK, leF, leV, matK, objM, renO, roSame, lh, born, AObj.born, AObj.live, injOk, kindOf, rens_ints, okIns_ints, List.range, List.range.loop, mrg, mset]
        · simp [ren, rens, sg, sig, okIn, okIns, exK, leK, leF, leV, matK, objM, renO, roSame, lh, born, AObj.born, AObj.live, injOk, kindOf, rens_ints, okIns_ints, List.range, List.range.loop, mrg, mset]
        · simp [ren, rens, sg, sig, okIn, okIns, exK, leK, leF, leV, matK, objM, renO, roSame, lh, born, AObj.born, AObj.live, injOk, kindOf, rens_ints, okIns_ints, List.range, List.range.loop, mrg, mset]
        simp (maxSteps := 2000000) only [↓vP0, vQ0, vT0, simprocAttr]
        refine callK_read (c_at w v p hb x y) [3] ?_ ?_ ?_ rfl ?_
        · simp [ren, rens, sg, sig, okIn, okIns, exK, leK, leF, leV, matK, objM, renO, roSame, lh, born, AObj.born, AObj.live, injOk, kindOf, rens_ints, okIns_ints, List.range, List.range.loop, mrg, mset]
        · simp [ren, rens, sg, sig, okIn, okIns, exK, leK, leF, leV, matK, objM, renO, roSame, lh, born, AObj.born, AObj.live, injOk, kindOf, rens_ints, okIns_ints, List.range, List.range.loop, mrg, mset]
        · simp [ren, rens, sg, sig, okIn, okIns, exK, leK, leF, leV, matK, objM, renO, roSame, lh, born, AObj.born, AObj.live, injOk, kindOf, rens_ints, okIns_ints, List.range, List.range.loop, mrg, mset]
        obtain ⟨cb0, cb1⟩ := ctx_bd (w := w) (v := v) (w' := w') (v' := v') hp hq t dx dy x y ho.1
        obtain ⟨c, hc⟩ : ∃ c : Nat, ctxOf t dx dy w v p w' v' q x y = (c : Int) := ⟨_, (Int.toNat_of_nonneg cb0).symm⟩
        have hcs : (c : Int) + 1 ≤ sizeN t := by
          rw [hc] at cb1; unfold sizeN; split <;> simp_all <;> omega
        have hpw : IntKind.i64.wrap (pixAt w v p x y) = pixAt w v p x y := by
          have := pix01 hp w v x y
          simp (disch := omega) only [wr64, wru64, wru8, tdv, tmd, fdv]
        rw [hc]
        simp (maxSteps := 2000000) only [↓vP0, vQ0, vT0, simprocAttr, hpw]
        simp (disch := omega) only [wr64, wru64, wru8, tdv, tmd, fdv]
        rw [← Int.natCast_add]
        refine callK_det (c_pPut E q1 (base + c) (by omega) _ (pix01 hp w v x y) (by omega)) [0, 1, 5] ?_ ?_ ?_ rfl (by simp [pEncL, pEncM]) ?_
        · simp [ren, rens, sg, sig, okIn, okIns, exK, leK, leF, leV, matK, objM, renO, roSame, lh, born, AObj.born, AObj.live, injOk, kindOf, rens_ints, okIns_ints, List.range, List.range.loop, mrg, mset]
        · simp [ren, rens, sg, sig, okIn, okIns, exK, leK, leF, leV, matK, objM, renO, roSame, lh, born, AObj.born, AObj.live, injOk, kindOf, rens_ints, okIns_ints, List.range, List.range.loop, mrg, mset, pEncL]
        · simp [ren, rens, sg, sig, okIn, okIns, exK, leK, leF, leV, matK, objM, renO, roSame, lh, born, AObj.born, AObj.live, injOk, kindOf, rens_ints, okIns_ints, List.range, List.range.loop, mrg, mset, pEncL, pEncC_rens, pEncC_okIns, pEncC_inj]
        simp only [pEncL, pEncM]
        simp (maxSteps := 2000000) only [↓vP0, vQ0, vT0, simprocAttr, pEncC_rens]
        simp (disch := omega) only [wr64, wru64, wru8, tdv, tmd, fdv]
        have hpe : pixEv t dx dy false w v p w' v' q y x = [(c, pixAt w v p x y)] := by simp [pixEv, hc]
        have hnx : encAll e (mv base ((List.range y).flatMap (rowEv t dx dy false w v p w' v' q) ++ headEv t dx dy false w v p w' v' q y ++ (List.range (x + 1)).flatMap (pixEv t dx dy false w v p w' v' q y))) = E.put (base + c) (pixAt w v p x y) := by
          rw [range_flat_succ, ← List.append_assoc, hpe, encSnoc, hEx]
        refine ⟨x + 1, by omega, by omega, [10, 6, 7, 8, 9], ?_⟩
        simp only [leR, hnx, Int.natCast_add, Int.cast_ofNat_Int]
        simp [ren, rens, sg, sig, okIn, okIns, exK, leK, leF, leV, matK, objM, renO, roSame, lh, born, AObj.born, AObj.live, injOk, kindOf, rens_ints, okIns_ints, List.range, List.range.loop, mrg, mset, leF, leV, leK, pEncC_rens, pEncC_okIns, pEncC_inj]
      · have hxw : x = w.toNat := by omega
        subst hxw
        simp (maxSteps := 2000000) only [↓vP0, vQ0, vT0, simprocAttr]
        simp (disch := omega) only [wr64, wru64, wru8, tdv, tmd, fdv]
        have hny : encAll e (mv base ((List.range (y + 1)).flatMap (rowEv t dx dy false w v p w' v' q))) = E := by
          rw [range_flat_succ, show rowEv t dx dy false w v p w' v' q y = headEv t dx dy false w v p w' v' q y ++ (List.range w.toNat).flatMap (pixEv t dx dy false w v p w' v' q y) from rfl, ← List.append_assoc, hEx]
        refine ⟨y + 1, by omega, by omega, [5, 6, 7, 8, 9], ?_⟩
        simp only [leR, p8L, hny, Int.natCast_add, Int.cast_ofNat_Int]
        simp [ren, rens, sg, sig, okIn, okIns, exK, leK, leF, leV, matK, objM, renO, roSame, lh, born, AObj.born, AObj.live, injOk, kindOf, rens_ints, okIns_ints, List.range, List.range.loop, mrg, mset, leF, leV, leK, pEncC_rens, pEncC_okIns, pEncC_inj]
    | true =>
      obtain ⟨k1, k2, k3, k4⟩ := encMv he hN (rows_ok (dx := dx) (dy := dy) (ty := true) (w := w) (v := v) (w' := w') (v' := v') ho.1 hp hq y) (Nat.le_trans (rows_len s1 y) (by omega))
      generalize hEy : encAll e (mv base ((List.range y).flatMap (rowEv t dx dy true w v p w' v' q))) = F at k1 k2 k3 k4
      simp (maxSteps := 2000000) only [↓vP0, vQ0, vT0, simprocAttr]
      refine callK_read (c_typical t dx dy true kd ho.2.2 w v w' v' p q hb hr y hys) [9, 3, 4] ?_ ?_ ?_ rfl ?_
      · simp [ren, rens, sg, sig, okIn, okIns, exK, leK, leF, leV, matK, objM, renO, roSame, lh, born, AObj.born, AObj.live, injOk, kindOf, rens_ints, okIns_ints, List.range, List.range.loop, mrg, mset]
      · simp [ren, rens, sg, sig, okIn, okIns, exK, leK, leF, leV, matK, objM, renO, roSame, lh, born, AObj.born, AObj.live, injOk, kindOf, rens_ints, okIns_ints, List.range, List.range.loop, mrg, mset]
      · simp [ren, rens, sg, sig, okIn, okIns, exK, leK, leF, leV, matK, objM, renO, roSame, lh, born, AObj.born, AObj.live, injOk, kindOf, rens_ints, okIns_ints, List.range, List.range.loop, mrg, mset]
      obtain ⟨l, hl1⟩ : ∃ l : Nat, (base : Int) + (sizeN t - 1) = (l : Int) := ⟨_, (Int.toNat_of_nonneg (by omega)).symm⟩
      cases hrow : rowT dx dy w v p w' v' q y with
      | true =>
        simp (maxSteps := 2000000) only [↓vP0, vQ0, vT0, simprocAttr]
        refine callK_pure (c_contexts t ho.1) rfl rfl ?_
        rw [hcx]
        simp (maxSteps := 2000000) only [↓vP0, vQ0, vT0, simprocAttr]
        simp (disch := omega) only [wr64, wru64, wru8, tdv, tmd, fdv]
        rw [hl1]
        refine callK_det (c_pPut F k1 l (by omega) 1 (by simp [KdOk]) (by omega)) [0, 1, 5] ?_ ?_ ?_ rfl (by simp [pEncL, pEncM]) ?_
        · simp [ren, rens, sg, sig, okIn, okIns, exK, leK, leF, leV, matK, objM, renO, roSame, lh, born, AObj.born, AObj.live, injOk, kindOf, rens_ints, okIns_ints, List.range, List.range.loop, mrg, mset]
        · simp [ren, rens, sg, sig, okIn, okIns, exK, leK, leF, leV, matK, objM, renO, roSame, lh, born, AObj.born, AObj.live, injOk, kindOf, rens_ints, okIns_ints, List.range, List.range.loop, mrg, mset, pEncL]
        · simp [ren, rens, sg, sig, okIn, okIns, exK, leK, leF, leV, matK, objM, renO, roSame, lh, born, AObj.born, AObj.live, injOk, kindOf, rens_ints, okIns_ints, List.range, List.range.loop, mrg, mset, pEncL, pEncC_rens, pEncC_okIns, pEncC_inj]
        simp only [pEncL, pEncM]
        simp (maxSteps := 2000000) only [↓vP0, vQ0, vT0, simprocAttr, pEncC_rens]
        have hh : encAll e (mv base ((List.range y).flatMap (rowEv t dx dy true w v p w' v' q) ++ headEv t dx dy true w v p w' v' q y)) = F.put l 1 := by
          rw [show headEv t dx dy true w v p w' v' q y = [((sizeN t - 1).toNat, 1)] from by simp [headEv, hrow], encSnoc, hEy, show base + (sizeN t - 1).toNat = l by omega]
        refine loopK_ren tyok hD (α := Nat) (fun x => (x : Int) ≤ w) (fun x => w.toNat - x) (fun x => [.ptr 0 0, .int .i64 base, .junk, .junk, .junk, .junk, .junk, .ptr 6 0, .ptr 7 0, .ptr 8 0, .junk, .ptr 9 0, .int .i64 y, .bool true, .junk, .junk, .junk, .junk, .junk, .junk, .junk, .junk, .junk, .junk, .junk, .junk, .junk, .junk, .junk, .junk, .junk, .junk, .junk, .junk, .junk, .junk, .junk, .junk, .junk, .junk, .junk, .junk, .junk, .junk, .junk, .junk, .junk, .junk, .junk, .junk, .junk, .junk, .int .i64 v, .int .i64 y, .junk, .junk, .junk, .junk, .junk, .junk, .junk, .junk, .junk, .junk, .junk, .junk, .junk, .junk, .junk, .junk, .junk, .junk, .junk, .junk, .junk, .int .i64 w, .int .i64 x, .junk, .junk, .junk, .junk, .junk, .junk, .junk, .junk, .junk, .junk, .junk, .junk, .junk, .junk, .junk, .junk, .junk, .junk, .junk, .junk, .junk, .junk, .junk, .junk, .junk, .junk, .junk, .junk, .junk, .junk, .junk, .junk, .junk])
          (fun x => p8L (encAll e (mv base ((List.range y).flatMap (rowEv t dx dy true w v p w' v' q) ++ headEv t dx dy true w v p w' v' q y ++ (List.range x).flatMap (pixEv t dx dy true w v p w' v' q y)))) t dx dy true kd w v w' v' p q) 0 (by omega) ⟨[10, 6, 7, 8, 9], ?_⟩ ?_
        · simp only [leR, p8L, List.range_zero, List.flatMap_nil, List.append_nil, hh]
          simp [ren, rens, sg, sig, okIn, okIns, exK, leK, leF, leV, matK, objM, renO, roSame, lh, born, AObj.born, AObj.live, injOk, kindOf, rens_ints, okIns_ints, List.range, List.range.loop, mrg, mset, leF, leV, leK, pEncC_rens, pEncC_okIns, pEncC_inj]
        intro x hx
        obtain ⟨q1, q2, q3, q4⟩ := encMv he hN (part_okEv (dx := dx) (dy := dy) (ty := true) (w := w) (v := v) (w' := w') (v' := v') ho.1 hp hq y y x) (part_lenEv s1 y y x (by omega) (by omega))
        generalize hEx : encAll e (mv base ((List.range y).flatMap (rowEv t dx dy true w v p w' v' q) ++ headEv t dx dy true w v p w' v' q y ++ (List.range x).flatMap (pixEv t dx dy true w v p w' v' q y))) = E at q1 q2 q3 q4
        simp only [p8L, hEx]
        simp (maxSteps := 2000000) only [↓vP0, vQ0, vT0, simprocAttr]
        (with_reducible first | refine condK_dec (fun h => ?_) (fun h => ?_) | refine condK_beq (fun h => ?_) (fun h => ?_) | refine condK_bne (fun h => ?_) (fun h => ?_) | refine condK_intro (fun h => ?_) (fun h => ?_))
        · have hxs : Small (x : Int) := ⟨by omega, by omega⟩
          simp (maxSteps := 2000000) only [↓vP0, vQ0, vT0, simprocAttr]
          refine callK_read (c_flat t dx dy true kd ho.2.2 w v w' v' p q hr x y hxs hys) [9, 3, 4] ?_ ?_ ?_ rfl ?_
          · simp [ren, rens, sg, sig, okIn, okIns, exK, leK, leF, leV, matK, objM, renO, roSame, lh, born, AObj.born, AObj.live, injOk, kindOf, rens_ints, okIns_ints, List.range, List.range.loop, mrg, mset]
          · simp [ren, rens, sg, sig, okIn, okIns, exK, leK, leF, leV, matK, objM, renO, roSame, lh, born, AObj.born, AObj.live, injOk, kindOf, rens_ints, okIns_ints, List.range, List.range.loop, mrg, mset]
          · simp [ren, rens, sg, sig, okIn, okIns, exK, leK, leF, leV, matK, objM, renO, roSame, lh, born, AObj.born, AObj.live, injOk, kindOf, rens_ints, okIns_ints, List.range, List.range.loop, mrg, mset]
          cases hf : flatB dx dy w' v' q x y with
          | true =>
            simp (maxSteps := 2000000) only [↓vP0, vQ0, vT0, simprocAttr]
            simp (disch := omega) only [wr64, wru64, wru8, tdv, tmd, fdv]
            have hpe : pixEv t dx dy true w v p w' v' q y x = [] := by simp [pixEv, hf, hrow]
            have hnx : encAll e (mv base ((List.range y).flatMap (rowEv t dx dy true w v p w' v' q) ++ headEv t dx dy true w v p w' v' q y ++ (List.range (x + 1)).flatMap (pixEv t dx dy true w v p w' v' q y))) = E := by
              rw [range_flat_succ, ← List.append_assoc, hpe, List.append_nil, hEx]
            refine ⟨x + 1, by omega, by omega, [5, 6, 7, 8, 9], ?_⟩
            simp only [leR, hnx, Int.natCast_add, Int.cast_ofNat_Int]
            simp [ren, rens, sg, sig, okIn, okIns, exK, leK, leF, leV, matK, objM, renO, roSame, lh, born, AObj.born, AObj.live, injOk, kindOf, rens_ints, okIns_ints, List.range, List.range.loop, mrg, mset, leF, leV, leK, pEncC_rens, pEncC_okIns, pEncC_inj]
          | false =>
            simp (maxSteps := 2000000) only [↓vP0, vQ0, vT0, simprocAttr]
            refine drawK_of tyok rfl (usL [[], [], [], [], [], [], [], [], [], [], [5]]) (fun i => if i = 5 then .below 10 else .below 0) (by kernel_rfl) ?_
            simp (maxSteps := 2000000) only [↓vP0, vQ0, vT0, simprocAttr]
            refine callK_read (c_context t ho.1 dx dy true kd ho.2.2 w v w' v' p q hb hr hp hq x y hxs hys) [9, 3, 4] ?_ ?_ ?_ rfl ?_
            · simp [ren, rens, sg, sig, okIn, okIns, exK, leK, leF, leV, matK, objM, renO, roSame, lh, born, AObj.born, AObj.live, injOk, kindOf, rens_ints, okIns_ints, List.range, List.range.loop, mrg, mset]
            · simp [ren, rens, sg, sig, okIn, okIns, exK, leK, leF, leV, matK, objM, renO, roSame, lh, born, AObj.born, AObj.live, injOk, kindOf, rens_ints, okIns_ints, List.range, List.range.loop, mrg, mset]
            · simp [ren, rens, sg, sig, okIn, okIns, exK, leK, leF, leV, matK, objM, renO, roSame, lh, born, AObj.born, AObj.live, injOk, kindOf, rens_ints, okIns_ints, List.range, List.range.loop, mrg, mset]
            simp (maxSteps := 2000000) only [↓vP0, vQ0, vT0, simprocAttr]
            refine callK_read (c_at w v p hb x y) [3] ?_ ?_ ?_ rfl ?_
            · simp [ren, rens, sg, sig, okIn, okIns, exK, leK, leF, leV, matK, objM, renO, roSame, lh, born, AObj.born, AObj.live, injOk, kindOf, rens_ints, okIns_ints, List.range, List.range.loop, mrg, mset]
            · simp [ren, rens, sg, sig, okIn, okIns, exK, leK, leF, leV, matK, objM, renO, roSame, lh, born, AObj.born, AObj.live, injOk, kindOf, rens_ints, okIns_ints, List.range, List.range.loop, mrg, mset]
            · simp [ren, rens, sg, sig, okIn, okIns, exK, leK, leF, leV, matK, objM, renO, roSame, lh, born, AObj.born, AObj.live, injOk, kindOf, rens_ints, okIns_ints, List.range, List.range.loop, mrg, mset]
            obtain ⟨cb0, cb1⟩ := ctx_bd (w := w) (v := v) (w' := w') (v' := v') hp hq t dx dy x y ho.1
            obtain ⟨c, hc⟩ : ∃ c : Nat, ctxOf t dx dy w v p w' v' q x y = (c : Int) := ⟨_, (Int.toNat_of_nonneg cb0).symm⟩
            have hcs : (c : Int) + 1 ≤ sizeN t := by
              rw [hc] at cb1; unfold sizeN; split <;> simp_all <;> omega
            have hpw : IntKind.i64.wrap (pixAt w v p x y) = pixAt w v p x y := by
              have := pix01 hp w v x y
              simp (disch := omega) only [wr64, wru64, wru8, tdv, tmd, fdv]
            rw [hc]
            simp (maxSteps := 2000000) only [↓vP0, vQ0, vT0, simprocAttr, hpw]
            simp (disch := omega) only [wr64, wru64, wru8, tdv, tmd, fdv]
            rw [← Int.natCast_add]
            refine callK_det (c_pPut E q1 (base + c) (by omega) _ (pix01 hp w v x y) (by omega)) [0, 1, 5] ?_ ?_ ?_ rfl (by simp [pEncL, pEncM]) ?_
            · simp [ren, rens, sg, sig, okIn, okIns, exK, leK, leF, leV, matK, objM, renO, roSame, lh, born, AObj.born, AObj.live, injOk, kindOf, rens_ints, okIns_ints, List.range, List.range.loop, mrg, mset]
            · simp [ren, rens, sg, sig, okIn, okIns, exK, leK, leF, leV, matK, objM, renO, roSame, lh, born, AObj.born, AObj.live, injOk, kindOf, rens_ints, okIns_ints, List.range, List.range.loop, mrg, mset, pEncL]
            · simp [ren, rens, sg, sig, okIn, okIns, exK, leK, leF, leV, matK, objM, renO, roSame, lh, born, AObj.born, AObj.live, injOk, kindOf, rens_ints, okIns_ints, List.range, List.range.loop, mrg, mset, pEncL, pEncC_rens, pEncC_okIns, pEncC_inj]
            simp only [pEncL, pEncM]
            simp (maxSteps := 2000000) only [↓vP0, vQ0, vT0, simprocAttr, pEncC_rens]
            simp (disch := omega) only [wr64, wru64, wru8, tdv, tmd, fdv]
            have hpe : pixEv t dx dy true w v p w' v' q y x = [(c, pixAt w v p x y)] := by simp [pixEv, hc, hf]
            have hnx : encAll e (mv base ((List.range y).flatMap (rowEv t dx dy true w v p w' v' q) ++ headEv t dx dy true w v p w' v' q y ++ (List.range (x + 1)).flatMap (pixEv t dx dy true w v p w' v' q y))) = E.put (base + c) (pixAt w v p x y) := by
              rw [range_flat_succ, ← List.append_assoc, hpe, encSnoc, hEx]
            refine ⟨x + 1, by omega, by omega, [10, 6, 7, 8, 9], ?_⟩
            simp only [leR, hnx, Int.natCast_add, Int.cast_ofNat_Int]
            simp [ren, rens, sg, sig, okIn, okIns, exK, leK, leF, leV, matK, objM, renO, roSame, lh, born, AObj.born, AObj.live, injOk, kindOf, rens_ints, okIns_ints, List.range, List.range.loop, mrg, mset, leF, leV, leK, pEncC_rens, pEncC_okIns, pEncC_inj]
        · have hxw : x = w.toNat := by omega
          subst hxw
          simp (maxSteps := 2000000) only [↓vP0, vQ0, vT0, simprocAttr]
          simp (disch := omega) only [wr64, wru64, wru8, tdv, tmd, fdv]
          have hny : encAll e (mv base ((List.range (y + 1)).flatMap (rowEv t dx dy true w v p w' v' q))) = E := by
            rw [range_flat_succ, show rowEv t dx dy true w v p w' v' q y = headEv t dx dy true w v p w' v' q y ++ (List.range w.toNat).flatMap (pixEv t dx dy true w v p w' v' q y) from rfl, ← List.append_assoc, hEx]
          refine ⟨y + 1, by omega, by omega, [5, 6, 7, 8, 9], ?_⟩
          simp only [leR, p8L, hny, Int.natCast_add, Int.cast_ofNat_Int]
          simp [ren, rens, sg, sig, okIn, okIns, exK, leK, leF, leV, matK, objM, renO, roSame, lh, born, AObj.born, AObj.live, injOk, kindOf, rens_ints, okIns_ints, List.range, List.range.loop, mrg, mset, leF, leV, leK, pEncC_rens, pEncC_okIns, pEncC_inj]
      | false =>
        simp (maxSteps := 2000000) only [↓vP0, vQ0, vT0, simprocAttr]
        refine callK_pure (c_contexts t ho.1) rfl rfl ?_
        rw [hcx]
        simp (maxSteps := 2000000) only [↓vP0, vQ0, vT0, simprocAttr]
        simp (disch := omega) only [wr64, wru64, wru8, tdv, tmd, fdv]
        rw [hl1]
        refine callK_det (c_pPut F k1 l (by omega) 0 (by simp [KdOk]) (by omega)) [0, 1, 5] ?_ ?_ ?_ rfl (by simp [pEncL, pEncM]) ?_
        · simp [ren, rens, sg, sig, okIn, okIns, exK, leK, leF, leV, matK, objM, renO, roSame, lh, born, AObj.born, AObj.live, injOk, kindOf, rens_ints, okIns_ints, List.range, List.range.loop, mrg, mset]
        · simp [ren, rens, sg, sig, okIn, okIns, exK, leK, leF, leV, matK, objM, renO, roSame, lh, born, AObj.born, AObj.live, injOk, kindOf, rens_ints, okIns_ints, List.range, List.range.loop, mrg, mset, pEncL]
        · simp [ren, rens, sg, sig, okIn, okIns, exK, leK, leF, leV, matK, objM, renO, roSame, lh, born, AObj.born, AObj.live, injOk, kindOf, rens_ints, okIns_ints, List.range, List.range.loop, mrg, mset, pEncL, pEncC_rens, pEncC_okIns, pEncC_inj]
        simp only [pEncL, pEncM]
        simp (maxSteps := 2000000) only [↓vP0, vQ0, vT0, simprocAttr, pEncC_rens]
        have hh : encAll e (mv base ((List.range y).flatMap (rowEv t dx dy true w v p w' v' q) ++ headEv t dx dy true w v p w' v' q y)) = F.put l 0 := by
          rw [show headEv t dx dy true w v p w' v' q y = [((sizeN t - 1).toNat, 0)] from by simp [headEv, hrow], encSnoc, hEy, show base + (sizeN t - 1).toNat = l by omega]
        refine loopK_ren tyok hD (α := Nat) (fun x => (x : Int) ≤ w) (fun x => w.toNat - x) (fun x => [.ptr 0 0, .int .i64 base, .junk, .junk, .junk, .junk, .junk, .ptr 6 0, .ptr 7 0, .ptr 8 0, .junk, .ptr 9 0, .int .i64 y, .bool false, .junk, .junk, .junk, .junk, .junk, .junk, .junk, .junk, .junk, .junk, .junk, .junk, .junk, .junk, .junk, .junk, .junk, .junk, .junk, .junk, .junk, .junk, .junk, .junk, .junk, .junk, .junk, .junk, .junk, .junk, .junk, .junk, .junk, .junk, .junk, .junk, .junk, .junk, .int .i64 v, .int .i64 y, .junk, .junk, .junk, .junk, .junk, .junk, .junk, .junk, .junk, .junk, .junk, .junk, .junk, .junk, .junk, .junk, .junk, .junk, .junk, .junk, .junk, .int .i64 w, .int .i64 x, .junk, .junk, .junk, .junk, .junk, .junk, .junk, .junk, .junk, .junk, .junk, .junk, .junk, .junk, .junk, .junk, .junk, .junk, .junk, .junk, .junk, .junk, .junk, .junk, .junk, .junk, .junk, .junk, .junk, .junk, .junk, .junk, .junk])
          (fun x => p8L (encAll e (mv base ((List.range y).flatMap (rowEv t dx dy true w v p w' v' q) ++ headEv t dx dy true w v p w' v' q y ++ (List.range x).flatMap (pixEv t dx dy true w v p w' v' q y)))) t dx dy true kd w v w' v' p q) 0 (by omega) ⟨[10, 6, 7, 8, 9], ?_⟩ ?_
        · simp only [leR, p8L, List.range_zero, List.flatMap_nil, List.append_nil, hh]
          simp [ren, rens, sg, sig, okIn, okIns, exK, leK, leF, leV, matK, objM, renO, roSame, lh, born, AObj.born, AObj.live, injOk, kindOf, rens_ints, okIns_ints, List.range, List.range.loop, mrg, mset, leF, leV, leK, pEncC_rens, pEncC_okIns, pEncC_inj]
        intro x hx
        obtain ⟨q1, q2, q3, q4⟩ := encMv he hN (part_okEv (dx := dx) (dy := dy) (ty := true) (w := w) (v := v) (w' := w') (v' := v') ho.1 hp hq y y x) (part_lenEv s1 y y x (by omega) (by omega))
        generalize hEx : encAll e (mv base ((List.range y).flatMap (rowEv t dx dy true w v p w' v' q) ++ headEv t dx dy true w v p w' v' q y ++ (List.range x).flatMap (pixEv t dx dy true w v p w' v' q y))) = E at q1 q2 q3 q4
        simp only [p8L, hEx]
        simp (maxSteps := 2000000) only [↓vP0, vQ0, vT0, simprocAttr]
        (with_reducible first | refine condK_dec (fun h => ?_) (fun h => ?_) | refine condK_beq (fun h => ?_) (fun h => ?_) | refine condK_bne (fun h => ?_) (fun h => ?_) | refine condK_intro (fun h => ?_) (fun h => ?_))
        · have hxs : Small (x : Int) := ⟨by omega, by omega⟩
          simp (maxSteps := 2000000) only [↓vP0, vQ0, vT0, simprocAttr]
          refine callK_read (c_flat t dx dy true kd ho.2.2 w v w' v' p q hr x y hxs hys) [9, 3, 4] ?_ ?_ ?_ rfl ?_
          · simp [ren, rens, sg, sig, okIn, okIns, exK, leK, leF, leV, matK, objM, renO, roSame, lh, born, AObj.born, AObj.live, injOk, kindOf, rens_ints, okIns_ints, List.range, List.range.loop, mrg, mset]
          · simp [ren, rens, sg, sig, okIn, okIns, exK, leK, leF, leV, matK, objM, renO, roSame, lh, born, AObj.born, AObj.live, injOk, kindOf, rens_ints, okIns_ints, List.range, List.range.loop, mrg, mset]
          · simp [ren, rens, sg, sig, okIn, okIns, exK, leK, leF, leV, matK, objM, renO, roSame, lh, born, AObj.born, AObj.live, injOk, kindOf, rens_ints, okIns_ints, List.range, List.range.loop, mrg, mset]
          simp (maxSteps := 2000000) only [↓vP0, vQ0, vT0, simprocAttr]
          refine drawK_of tyok rfl (usL [[], [], [], [], [], [], [], [], [], [], [5]]) (fun i => if i = 5 then .below 10 else .below 0) (by kernel_rfl) ?_
          simp (maxSteps := 2000000) only [↓vP0, vQ0, vT0, simprocAttr]
          refine callK_read (c_context t ho.1 dx dy true kd ho.2.2 w v w' v' p q hb hr hp hq x y hxs hys) [9, 3, 4] ?_ ?_ ?_ rfl ?_
          · simp [ren, rens, sg, sig, okIn, okIns, exK, leK, leF, leV, matK, objM, renO, roSame, lh, born, AObj.born, AObj.live, injOk, kindOf, rens_ints, okIns_ints, List.range, List.range.loop, mrg, mset]
          · simp [ren, rens, sg, sig, okIn, okIns, exK, leK, leF, leV, matK, objM, renO, roSame, lh, born, AObj.born, AObj.live, injOk, kindOf, rens_ints, okIns_ints, List.range, List.range.loop, mrg, mset]
          · simp [ren, rens, sg, sig, okIn, okIns, exK, leK, leF, leV, matK, objM, renO, roSame, lh, born, AObj.born, AObj.live, injOk, kindOf, rens_ints, okIns_ints, List.range, List.range.loop, mrg, mset]
          simp (maxSteps := 2000000) only [↓vP0, vQ0, vT0, simprocAttr]
          refine callK_read (c_at w v p hb x y) [3] ?_ ?_ ?_ rfl ?_
          · simp [ren, rens, sg, sig, okIn, okIns, exK, leK, leF, leV, matK, objM, renO, roSame, lh, born, AObj.born, AObj.live, injOk, kindOf, rens_ints, okIns_ints, List.range, List.range.loop, mrg, mset]
          · simp [ren, rens, sg, sig, okIn, okIns, exK, leK, leF, leV, matK, objM, renO, roSame, lh, born, AObj.born, AObj.live, injOk, kindOf, rens_ints, okIns_ints, List.range, List.range.loop, mrg, mset]
          · simp [ren, rens, sg, sig, okIn, okIns, exK, leK, leF, leV, matK, objM, renO, roSame, lh, born, AObj.born, AObj.live, injOk, kindOf, rens_ints, okIns_ints, List.range, List.range.loop, mrg, mset]
          obtain ⟨cb0, cb1⟩ := ctx_bd (w := w) (v := v) (w' := w') (v' := v') hp hq t dx dy x y ho.1
          obtain ⟨c, hc⟩ : ∃ c : Nat, ctxOf t dx dy w v p w' v' q x y = (c : Int) := ⟨_, (Int.toNat_of_nonneg cb0).symm⟩
          have hcs : (c : Int) + 1 ≤ sizeN t := by
            rw [hc] at cb1; unfold sizeN; split <;> simp_all <;> omega
          have hpw : IntKind.i64.wrap (pixAt w v p x y) = pixAt w v p x y := by
            have := pix01 hp w v x y
            simp (disch := omega) only [wr64, wru64, wru8, tdv, tmd, fdv]
          rw [hc]
          simp (maxSteps := 2000000) only [↓vP0, vQ0, vT0, simprocAttr, hpw]
          simp (disch := omega) only [wr64, wru64, wru8, tdv, tmd, fdv]
          rw [← Int.natCast_add]
          refine callK_det (c_pPut E q1 (base + c) (by omega) _ (pix01 hp w v x y) (by omega)) [0, 1, 5] ?_ ?_ ?_ rfl (by simp [pEncL, pEncM]) ?_
          · simp [ren, rens, sg, sig, okIn, okIns, exK, leK, leF, leV, matK, objM, renO, roSame, lh, born, AObj.born, AObj.live, injOk, kindOf, rens_ints, okIns_ints, List.range, List.range.loop, mrg, mset]
          · simp [ren, rens, sg, sig, okIn, okIns, exK, leK, leF, leV, matK, objM, renO, roSame, lh, born, AObj.born, AObj.live, injOk, kindOf, rens_ints, okIns_ints, List.range, List.range.loop, mrg, mset, pEncL]
          · simp [ren, rens, sg, sig, okIn, okIns, exK, leK, leF, leV, matK, objM, renO, roSame, lh, born, AObj.born, AObj.live, injOk, kindOf, rens_ints, okIns_ints, List.range, List.range.loop, mrg, mset, pEncL, pEncC_rens, pEncC_okIns, pEncC_inj]
          simp only [pEncL, pEncM]
          simp (maxSteps := 2000000) only [↓vP0, vQ0, vT0, simprocAttr, pEncC_rens]
          simp (disch := omega) only [wr64, wru64, wru8, tdv, tmd, fdv]
          have hpe : pixEv t dx dy true w v p w' v' q y x = [(c, pixAt w v p x y)] := by simp [pixEv, hc, hrow]
          have hnx : encAll e (mv base ((List.range y).flatMap (rowEv t dx dy true w v p w' v' q) ++ headEv t dx dy true w v p w' v' q y ++ (List.range (x + 1)).flatMap (pixEv t dx dy true w v p w' v' q y))) = E.put (base + c) (pixAt w v p x y) := by
            rw [range_flat_succ, ← List.append_assoc, hpe, encSnoc, hEx]
          refine ⟨x + 1, by omega, by omega, [10, 6, 7, 8, 9], ?_⟩
          simp only [leR, hnx, Int.natCast_add, Int.cast_ofNat_Int]
          simp [ren, rens, sg, sig, okIn, okIns, exK, leK, leF, leV, matK, objM, renO, roSame, lh, born, AObj.born, AObj.live, injOk, kindOf, rens_ints, okIns_ints, List.range, List.range.loop, mrg, mset, leF, leV, leK, pEncC_rens, pEncC_okIns, pEncC_inj]
        · have hxw : x = w.toNat := by omega
          subst hxw
          simp (maxSteps := 2000000) only [↓vP0, vQ0, vT0, simprocAttr]
          simp (disch := omega) only [wr64, wru64, wru8, tdv, tmd, fdv]
          have hny : encAll e (mv base ((List.range (y + 1)).flatMap (rowEv t dx dy true w v p w' v' q))) = E := by
            rw [range_flat_succ, show rowEv t dx dy true w v p w' v' q y = headEv t dx dy true w v p w' v' q y ++ (List.range w.toNat).flatMap (pixEv t dx dy true w v p w' v' q y) from rfl, ← List.append_assoc, hEx]
          refine ⟨y + 1, by omega, by omega, [5, 6, 7, 8, 9], ?_⟩
          simp only [leR, p8L, hny, Int.natCast_add, Int.cast_ofNat_Int]
          simp [ren, rens, sg, sig, okIn, okIns, exK, leK, leF, leV, matK, objM, renO, roSame, lh, born, AObj.born, AObj.live, injOk, kindOf, rens_ints, okIns_ints, List.range, List.range.loop, mrg, mset, leF, leV, leK, pEncC_rens, pEncC_okIns, pEncC_inj]
  · have hyv : y = v.toNat := by omega
    subst hyv
    simp (maxSteps := 2000000) only [↓vP0, vQ0, vT0, simprocAttr]
    rw [show (List.range v.toNat).flatMap (rowEv t dx dy ty w v p w' v' q) = refEv t dx dy ty w v p w' v' q from rfl, ← hE']
    refine exit_of [5] (.int .i64 0) [.own (pEncC E' 1 5) 126, .own (ints .i64 E'.st) 3, .dead, .ro (ints .u8 p) 5, .ro (ints .u8 q) 5, .own (ints .u8 E'.out) 5] ⟨rfl, rfl⟩ ?_ ?_ rfl ?_ ?_
    all_goals simp [ren, rens, sg, sig, okIn, okIns, exK, leK, leF, leV, matK, objM, renO, roSame, lh, born, AObj.born, AObj.live, injOk, kindOf, rens_ints, okIns_ints, List.range, List.range.loop, mrg, mset, pEncL, pEncC_rens, pEncC_okIns, pEncC_inj]
end Go.Proofs.Ytbfefpkhalegmaa
