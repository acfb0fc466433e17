/- Contracts: a row of a region decoded by the program (printed by tools/gen17.py). -/
import Derived.Test.YtbfefpkhalegmaaF2
import Derived.Test.YtbfefpkhalegmaaF3
import Derived.KernelRfl

set_option linter.unusedVariables false
set_option linter.unusedSimpArgs false
namespace Go.Proofs.Ytbfefpkhalegmaa
open Go
set_option maxHeartbeats 4000000
set_option maxRecDepth 20000

abbrev rowL (t dx dy : Int) (ty : Bool) (kd w v w' v' : Int) (q : List Int) (D : Dec) (p : List Int) : List AObj :=
  [.own (regC t dx dy ty kd w v w' v' 1 p.length 2 q.length) 142, .own (ints .u8 p) 5, .ro (ints .u8 q) 5, .own (pDecC D 4 5) 154, .own (ints .i64 D.st) 3, .ro (ints .u8 D.code) 5]
theorem u8w (n : Int) (h : n = 0 ∨ n = 1) : IntKind.u8.wrap n = n := by rcases h with rfl | rfl <;> rfl
theorem got01 (d : Dec) (c : Nat) : d.got c = 0 ∨ d.got c = 1 := by
  rcases derr d c with h | h
  · exact h.2
  · exact .inl h.2
theorem rowRun_stop (t dx dy : Int) (base : Nat) (w v w' v' : Int) (q : List Int) (ty : Bool) (y n x : Nat) (d : Dec) (p : List Int) (h1 : (ty && flatB dx dy w' v' q x y) = false) (h2 : d.err (cxP t dx dy base w v w' v' q p y x) ≠ 0) :
    rowRun t dx dy base w v w' v' q ty y (n + 1) x d p = ⟨d.after (cxP t dx dy base w v w' v' q p y x), p, d.err (cxP t dx dy base w v w' v' q p y x)⟩ := by
  unfold rowRun; rw [h1, if_neg (by simp), if_pos h2]
theorem rowRun_got (t dx dy : Int) (base : Nat) (w v w' v' : Int) (q : List Int) (ty : Bool) (y n x : Nat) (d : Dec) (p : List Int) (h1 : (ty && flatB dx dy w' v' q x y) = false) (h2 : d.err (cxP t dx dy base w v w' v' q p y x) = 0) :
    rowRun t dx dy base w v w' v' q ty y (n + 1) x d p = rowRun t dx dy base w v w' v' q ty y n (x + 1) (d.after (cxP t dx dy base w v w' v' q p y x)) (p.set (ixP w y x) (d.got (cxP t dx dy base w v w' v' q p y x))) := by
  rw [rowRun.eq_def]; simp only; rw [h1, if_neg (by simp), if_neg (by simp [h2])]
theorem rowRun_flat (t dx dy : Int) (base : Nat) (w v w' v' : Int) (q : List Int) (ty : Bool) (y n x : Nat) (d : Dec) (p : List Int) (h1 : (ty && flatB dx dy w' v' q x y) = true) :
    rowRun t dx dy base w v w' v' q ty y (n + 1) x d p = rowRun t dx dy base w v w' v' q ty y n (x + 1) d (p.set (ixP w y x) (flatC dx dy w' v' q x y)) := by
  rw [rowRun.eq_def]; simp only; rw [if_pos h1]
theorem row_done (t dx dy : Int) (base : Nat) (w v w' v' : Int) (q : List Int) (ty : Bool) (y x : Nat) (d : Dec) (p : List Int) : rowRun t dx dy base w v w' v' q ty y 0 x d p = ⟨d, p, 0⟩ := rfl

theorem c_row (d0 : Dec) (base : Nat) (t dx dy : Int) (ty : Bool) (kd : Int) (ho : OptOk t dx dy kd) (w v w' v' : Int) (q : List Int) (hs : SizeOk w v) (hr : BmOk w' v' q) (hq : PixOk q)
    (hb0 : base + (sizeN t).toNat ≤ d0.st.length) (hl : d0.st.length ≤ 8192) (hcl : d0.code.length ≤ 1099511627776) (y : Nat) (hy : (y : Int) < v) (d : Dec) (p : List Int) (hI : RInv d0 (w * v).toNat d p) :
    LCall Try.prog 111 [.ptr 0 0, .ptr 3 0, .int .i64 base, .int .i64 y] (rowL t dx dy ty kd w v w' v' q d p) fun r L =>
      r = .int .i64 (rowAll t dx dy base w v w' v' q ty y d p).err ∧ L = rowL t dx dy ty kd w v w' v' q (rowAll t dx dy base w v w' v' q ty y d p).d (rowAll t dx dy base w v w' v' q ty y d p).p := by
  obtain ⟨s0, s1, s2, s3, s4⟩ := id hs
  have hm := area_bd s0 s1 s2 s3
  have hs0 : sizeN t = 513 ∨ sizeN t = 129 := by unfold sizeN; split <;> simp
  have hcx : (if t = 0 then 512 else 128 : Int) = sizeN t - 1 := by unfold sizeN; split <;> rfl
  have hys : Small y := ⟨by omega, by omega⟩
  have hkeep : ∀ D p', D.code = d.code → keepL 6 (rowL t dx dy ty kd w v w' v' q d p) (rowL t dx dy ty kd w v w' v' q D p') := by
    intro D p' hc; simp [keepL, keepO, okIns, okIn, okIns_ints, pDecC_okIns, hc]
  generalize hRA : rowAll t dx dy base w v w' v' q ty y d p = RA
  refine lcall_of_vc tyok Try.func111 rfl (by rfl) Try.results111 Try.ntmps111 ?_; intro C hD
  simp only [rowL] at hD ⊢
  cases ty with
  | false =>
    have hRA' : rowRun t dx dy base w v w' v' q false y w.toNat 0 d p = RA := by rw [← hRA]; rfl
    simp (maxSteps := 2000000) only [↓vP0, vQ0, vT0, simprocAttr]
    refine loopK_of tyok hD (α := Nat × Dec × List Int) (fun s => (s.1 : Int) ≤ w ∧ RInv d0 (w * v).toNat s.2.1 s.2.2 ∧ rowRun t dx dy base w v w' v' q (false) y (w.toNat - s.1) s.1 s.2.1 s.2.2 = RA) (fun s => w.toNat - s.1)
      (fun s => [.ptr 0 0, .ptr 3 0, .int .i64 base, .int .i64 y, .junk, .junk, .junk, .junk, .int .i64 0, .int .i64 (0), .junk, .junk, .junk, .junk, .junk, .junk, .junk, .junk, .junk, .junk, .junk, .junk, .junk, .junk, .junk, .junk, .junk, .junk, .junk, .junk, .junk, .junk, .junk, .junk, .junk, .junk, .junk, .junk, .junk, .junk, .junk, .junk, .junk, .junk, .int .i64 w, .int .i64 s.1, .junk, .junk, .junk, .junk, .junk, .junk, .junk, .junk, .junk, .junk, .junk, .junk, .junk, .junk, .junk, .junk, .junk, .junk, .junk, .junk, .junk, .junk, .junk, .junk, .junk, .junk, .junk, .junk, .junk, .junk, .junk, .junk, .junk, .junk, .junk, .junk, .junk, .junk, .junk, .junk, .junk, .junk, .junk, .junk, .junk, .junk, .junk, .junk, .junk, .junk, .junk, .junk, .junk, .junk, .junk])
      (fun s => rowL t dx dy false kd w v w' v' q s.2.1 s.2.2) (0, d, p) ⟨by simp; omega, hI, by simpa using hRA'⟩ ?_ ?_
    · (refine ⟨by simp [leF, leV] <;> rfl, ⟨_, by first | rfl | exact (List.append_nil _).symm⟩, by simp, by simp [okIns, okIn, okIns_ints, pDecC_okIns], by simp [AObj.born, okIns, okIn, AObj.cells, okIns_ints, pDecC_okIns]⟩)
    rintro ⟨x, D, u⟩ ⟨hx, hE, hrun⟩
    simp only at hx hE hrun
    obtain ⟨hO, hu, hul⟩ := id hE
    have hub : BmOk w v u := ⟨hs, by omega⟩
    simp only [rowL]
    simp (maxSteps := 2000000) only [↓vP0, vQ0, vT0, simprocAttr]
    (with_reducible first | refine condK_dec (fun h => ?_) (fun h => ?_) | refine condK_beq (fun h => ?_) (fun h => ?_) | refine condK_bne (fun h => ?_) (fun h => ?_) | refine condK_intro (fun h => ?_) (fun h => ?_))
    · have hxs : Small (x : Int) := ⟨by omega, by omega⟩
      obtain ⟨k, hk⟩ : ∃ k, w.toNat - x = k + 1 := ⟨w.toNat - x - 1, by omega⟩
      rw [hk] at hrun
      have hbd := at_bd (w := w) (h := v) (x := x) (y := y) (by omega) (by omega) (by omega) (by omega)
      have e1 : IntKind.i64.wrap ((y : Int) * w) = (y : Int) * w := by simp (disch := omega) only [wr64, wru64, wru8, tdv, tmd, fdv]
      have e2 : IntKind.i64.wrap ((y : Int) * w + x) = (y : Int) * w + x := by simp (disch := omega) only [wr64, wru64, wru8, tdv, tmd, fdv]
      have hix : (ixP w y x : Int) = (y : Int) * w + x := ixP_eq (by omega) y x
      have hcl2 : cxP t dx dy base w v w' v' q u y x < d0.st.length := by have := cx_lt (t := t) (dx := dx) (dy := dy) (base := base) (w := w) (v := v) (w' := w') (v' := v') ho.1 hu hq y x; omega
      obtain ⟨cb0, cb1⟩ := ctx_bd (w := w) (v := v) (w' := w') (v' := v') hu hq t dx dy x y ho.1
      obtain ⟨c, hc⟩ : ∃ c : Nat, ctxOf t dx dy w v u w' v' q x y = (c : Int) := ⟨_, (Int.toNat_of_nonneg cb0).symm⟩
      have hcc : cxP t dx dy base w v w' v' q u y x = base + c := by unfold cxP; rw [hc]; rfl
      simp (maxSteps := 2000000) only [↓vP0, vQ0, vT0, simprocAttr, e1, e2]
      refine callK_read (c_flat t dx dy false kd ho.2.2 w v w' v' u q hr x y hxs hys) [0, 1, 2] ?_ ?_ ?_ rfl ?_
      · simp [ren, rens, sg, sig, okIn, okIns, exK, leK, leF, leV, matK, objM, renO, roSame, lh, born, AObj.born, AObj.live, injOk, kindOf, rens_ints, okIns_ints, List.range, List.range.loop, mrg, mset]
      · simp [ren, rens, sg, sig, okIn, okIns, exK, leK, leF, leV, matK, objM, renO, roSame, lh, born, AObj.born, AObj.live, injOk, kindOf, rens_ints, okIns_ints, List.range, List.range.loop, mrg, mset]
      · simp [ren, rens, sg, sig, okIn, okIns, exK, leK, leF, leV, matK, objM, renO, roSame, lh, born, AObj.born, AObj.live, injOk, kindOf, rens_ints, okIns_ints, List.range, List.range.loop, mrg, mset]
      simp (maxSteps := 2000000) only [↓vP0, vQ0, vT0, simprocAttr]
      refine callK_read (c_context t ho.1 dx dy false kd ho.2.2 w v w' v' u q hub hr hu hq x y hxs hys) [0, 1, 2] ?_ ?_ ?_ rfl ?_
      · simp [ren, rens, sg, sig, okIn, okIns, exK, leK, leF, leV, matK, objM, renO, roSame, lh, born, AObj.born, AObj.live, injOk, kindOf, rens_ints, okIns_ints, List.range, List.range.loop, mrg, mset]
      · simp [ren, rens, sg, sig, okIn, okIns, exK, leK, leF, leV, matK, objM, renO, roSame, lh, born, AObj.born, AObj.live, injOk, kindOf, rens_ints, okIns_ints, List.range, List.range.loop, mrg, mset]
      · simp [ren, rens, sg, sig, okIn, okIns, exK, leK, leF, leV, matK, objM, renO, roSame, lh, born, AObj.born, AObj.live, injOk, kindOf, rens_ints, okIns_ints, List.range, List.range.loop, mrg, mset]
      rw [hc]
      simp (maxSteps := 2000000) only [↓vP0, vQ0, vT0, simprocAttr]
      simp (disch := omega) only [wr64, wru64, wru8, tdv, tmd, fdv]
      rw [← Int.natCast_add]
      refine callK_det (c_pGet D hO.1 (base + c) (by have := hO.2.2.1; omega) (by rw [hO.2.2.2]; exact hcl)) [3, 4, 5] ?_ ?_ ?_ rfl (by simp [pDecL, pDecC_rens, pDecC_okIns, pDecC_inj]) ?_
      · simp [ren, rens, sg, sig, okIn, okIns, exK, leK, leF, leV, matK, objM, renO, roSame, lh, born, AObj.born, AObj.live, injOk, kindOf, rens_ints, okIns_ints, List.range, List.range.loop, mrg, mset, pDecL, pDecC_rens, pDecC_okIns, pDecC_inj]
      · simp [ren, rens, sg, sig, okIn, okIns, exK, leK, leF, leV, matK, objM, renO, roSame, lh, born, AObj.born, AObj.live, injOk, kindOf, rens_ints, okIns_ints, List.range, List.range.loop, mrg, mset, pDecL, pDecC_rens, pDecC_okIns, pDecC_inj]
      · simp [ren, rens, sg, sig, okIn, okIns, exK, leK, leF, leV, matK, objM, renO, roSame, lh, born, AObj.born, AObj.live, injOk, kindOf, rens_ints, okIns_ints, List.range, List.range.loop, mrg, mset, pDecL, pDecC_rens, pDecC_okIns, pDecC_inj]
      simp only [pDecL]
      simp (maxSteps := 2000000) only [↓vP0, vQ0, vT0, simprocAttr, pDecC_rens]
      have hR2 := hO.after (c := base + c) (by omega)
      have hcod : (D.after (base + c)).code = D.code := hR2.2.2.2.trans hO.2.2.2.symm
      rcases derr D (base + c) with ⟨h0, h1⟩ | ⟨h6, h7⟩
      · have e0 : (D.err (base + c) != 0) = false := by rw [h0]; rfl
        have hg := got01 D (base + c)
        have e3 : IntKind.u8.wrap (D.got (base + c)) = D.got (base + c) := u8w _ hg
        rw [rowRun_got _ _ _ _ _ _ _ _ _ _ _ _ _ _ _ (by rfl) (by rw [hcc]; exact h0), hcc] at hrun
        simp (maxSteps := 2000000) only [↓vP0, vQ0, vT0, simprocAttr, e0, e1, e2, e3]
        refine chk_intro (by omega) ?_
        simp (maxSteps := 2000000) only [↓vP0, vQ0, vT0, simprocAttr, e3]
        refine chk_intro (by omega) ?_
        simp (maxSteps := 2000000) only [↓vP0, vQ0, vT0, simprocAttr, ints_set, e3]
        simp (disch := omega) only [wr64, wru64, wru8, tdv, tmd, fdv]
        refine ⟨(x + 1, D.after (base + c), u.set (ixP w y x) (D.got (base + c))), ⟨by simp only; omega, ⟨hR2, hu.set _ hg, by simpa using hul⟩, by simpa only [show w.toNat - (x + 1) = k by omega] using hrun⟩, by simp only; omega, ?_⟩
        simp only [rowL, hcod, List.length_set, ixP, Int.natCast_add, Int.cast_ofNat_Int]
        (refine ⟨by simp [leF, leV] <;> rfl, ⟨_, by first | rfl | exact (List.append_nil _).symm⟩, by simp, by simp [okIns, okIn, okIns_ints, pDecC_okIns], by simp [AObj.born, okIns, okIn, AObj.cells, okIns_ints, pDecC_okIns]⟩)
      · have e0 : (D.err (base + c) != 0) = true := by rw [h6]; rfl
        rw [rowRun_stop _ _ _ _ _ _ _ _ _ _ _ _ _ _ _ (by rfl) (by rw [hcc, h6]; simp), hcc] at hrun
        simp (maxSteps := 2000000) only [↓vP0, vQ0, vT0, simprocAttr, e0]
        subst hrun
        rw [← hcod]
        exact exit_keep (L1 := rowL t dx dy false kd w v w' v' q (D.after (base + c)) u) ⟨rfl, rfl⟩ trivial (hkeep _ _ (hcod.trans (hO.2.2.2.trans hI.1.2.2.2.symm)))
    · have hxw : w.toNat - x = 0 := by omega
      rw [hxw, row_done] at hrun
      simp (maxSteps := 2000000) only [↓vP0, vQ0, vT0, simprocAttr]
      subst hrun
      exact exit_keep (L1 := rowL t dx dy false kd w v w' v' q D u) ⟨rfl, rfl⟩ trivial (hkeep _ _ (hO.2.2.2.trans hI.1.2.2.2.symm))
  | true =>
    obtain ⟨l, hl1⟩ : ∃ l : Nat, base + (sizeN t - 1).toNat = l := ⟨_, rfl⟩
    simp (maxSteps := 2000000) only [↓vP0, vQ0, vT0, simprocAttr]
    refine callK_pure (c_contexts t ho.1) rfl rfl ?_
    rw [hcx]
    simp (maxSteps := 2000000) only [↓vP0, vQ0, vT0, simprocAttr]
    simp (disch := omega) only [wr64, wru64, wru8, tdv, tmd, fdv]
    rw [show (base : Int) + (sizeN t - 1) = ((l : Nat) : Int) by omega]
    refine callK_det (c_pGet d hI.1.1 l (by have := hI.1.2.2.1; omega) (by rw [hI.1.2.2.2]; exact hcl)) [3, 4, 5] ?_ ?_ ?_ rfl (by simp [pDecL, pDecC_rens, pDecC_okIns, pDecC_inj]) ?_
    · simp [ren, rens, sg, sig, okIn, okIns, exK, leK, leF, leV, matK, objM, renO, roSame, lh, born, AObj.born, AObj.live, injOk, kindOf, rens_ints, okIns_ints, List.range, List.range.loop, mrg, mset, pDecL, pDecC_rens, pDecC_okIns, pDecC_inj]
    · simp [ren, rens, sg, sig, okIn, okIns, exK, leK, leF, leV, matK, objM, renO, roSame, lh, born, AObj.born, AObj.live, injOk, kindOf, rens_ints, okIns_ints, List.range, List.range.loop, mrg, mset, pDecL, pDecC_rens, pDecC_okIns, pDecC_inj]
    · simp [ren, rens, sg, sig, okIn, okIns, exK, leK, leF, leV, matK, objM, renO, roSame, lh, born, AObj.born, AObj.live, injOk, kindOf, rens_ints, okIns_ints, List.range, List.range.loop, mrg, mset, pDecL, pDecC_rens, pDecC_okIns, pDecC_inj]
    simp only [pDecL]
    simp (maxSteps := 2000000) only [↓vP0, vQ0, vT0, simprocAttr, pDecC_rens]
    have hR1 := hI.1.after (c := l) (by omega)
    have hcod1 : (d.after l).code = d.code := hR1.2.2.2.trans hI.1.2.2.2.symm
    rcases derr d l with ⟨h0, h1⟩ | ⟨h6, h7⟩
    · have e0 : (d.err l != 0) = false := by rw [h0]; rfl
      have hRA' : rowRun t dx dy base w v w' v' q (d.got l == 1) y w.toNat 0 (d.after l) p = RA := by rw [← hRA, rowAll, if_pos rfl, hl1, if_neg (by rw [h0]; simp)]
      simp (maxSteps := 2000000) only [↓vP0, vQ0, vT0, simprocAttr, e0]
      refine loopK_of tyok hD (α := Nat × Dec × List Int) (fun s => (s.1 : Int) ≤ w ∧ RInv d0 (w * v).toNat s.2.1 s.2.2 ∧ rowRun t dx dy base w v w' v' q (d.got l == 1) y (w.toNat - s.1) s.1 s.2.1 s.2.2 = RA) (fun s => w.toNat - s.1)
        (fun s => [.ptr 0 0, .ptr 3 0, .int .i64 base, .int .i64 y, .junk, .junk, .junk, .junk, .int .i64 0, .int .i64 (d.got l), .int .i64 (d.got l), .int .i64 (d.err l), .junk, .junk, .junk, .junk, .junk, .junk, .junk, .junk, .junk, .junk, .junk, .junk, .junk, .junk, .junk, .junk, .junk, .junk, .junk, .junk, .junk, .junk, .junk, .junk, .junk, .junk, .junk, .junk, .junk, .junk, .junk, .junk, .int .i64 w, .int .i64 s.1, .junk, .junk, .junk, .junk, .junk, .junk, .junk, .junk, .junk, .junk, .junk, .junk, .junk, .junk, .junk, .junk, .junk, .junk, .junk, .junk, .junk, .junk, .junk, .junk, .junk, .junk, .junk, .junk, .junk, .junk, .junk, .junk, .junk, .junk, .junk, .junk, .junk, .junk, .junk, .junk, .junk, .junk, .junk, .junk, .junk, .junk, .junk, .junk, .junk, .junk, .junk, .junk, .junk, .junk, .junk])
        (fun s => rowL t dx dy true kd w v w' v' q s.2.1 s.2.2) (0, d.after l, p) ⟨by simp; omega, ⟨hR1, hI.2.1, hI.2.2⟩, by simpa using hRA'⟩ ?_ ?_
      · simp only [rowL, hcod1]
        (refine ⟨by simp [leF, leV] <;> rfl, ⟨_, by first | rfl | exact (List.append_nil _).symm⟩, by simp, by simp [okIns, okIn, okIns_ints, pDecC_okIns], by simp [AObj.born, okIns, okIn, AObj.cells, okIns_ints, pDecC_okIns]⟩)
      rintro ⟨x, D, u⟩ ⟨hx, hE, hrun⟩
      simp only at hx hE hrun
      obtain ⟨hO, hu, hul⟩ := id hE
      have hub : BmOk w v u := ⟨hs, by omega⟩
      simp only [rowL]
      simp (maxSteps := 2000000) only [↓vP0, vQ0, vT0, simprocAttr]
      (with_reducible first | refine condK_dec (fun h => ?_) (fun h => ?_) | refine condK_beq (fun h => ?_) (fun h => ?_) | refine condK_bne (fun h => ?_) (fun h => ?_) | refine condK_intro (fun h => ?_) (fun h => ?_))
      · have hxs : Small (x : Int) := ⟨by omega, by omega⟩
        obtain ⟨k, hk⟩ : ∃ k, w.toNat - x = k + 1 := ⟨w.toNat - x - 1, by omega⟩
        rw [hk] at hrun
        have hbd := at_bd (w := w) (h := v) (x := x) (y := y) (by omega) (by omega) (by omega) (by omega)
        have e1 : IntKind.i64.wrap ((y : Int) * w) = (y : Int) * w := by simp (disch := omega) only [wr64, wru64, wru8, tdv, tmd, fdv]
        have e2 : IntKind.i64.wrap ((y : Int) * w + x) = (y : Int) * w + x := by simp (disch := omega) only [wr64, wru64, wru8, tdv, tmd, fdv]
        have hix : (ixP w y x : Int) = (y : Int) * w + x := ixP_eq (by omega) y x
        have hcl2 : cxP t dx dy base w v w' v' q u y x < d0.st.length := by have := cx_lt (t := t) (dx := dx) (dy := dy) (base := base) (w := w) (v := v) (w' := w') (v' := v') ho.1 hu hq y x; omega
        obtain ⟨cb0, cb1⟩ := ctx_bd (w := w) (v := v) (w' := w') (v' := v') hu hq t dx dy x y ho.1
        obtain ⟨c, hc⟩ : ∃ c : Nat, ctxOf t dx dy w v u w' v' q x y = (c : Int) := ⟨_, (Int.toNat_of_nonneg cb0).symm⟩
        have hcc : cxP t dx dy base w v w' v' q u y x = base + c := by unfold cxP; rw [hc]; rfl
        simp (maxSteps := 2000000) only [↓vP0, vQ0, vT0, simprocAttr, e1, e2]
        refine callK_read (c_flat t dx dy true kd ho.2.2 w v w' v' u q hr x y hxs hys) [0, 1, 2] ?_ ?_ ?_ rfl ?_
        · simp [ren, rens, sg, sig, okIn, okIns, exK, leK, leF, leV, matK, objM, renO, roSame, lh, born, AObj.born, AObj.live, injOk, kindOf, rens_ints, okIns_ints, List.range, List.range.loop, mrg, mset]
        · simp [ren, rens, sg, sig, okIn, okIns, exK, leK, leF, leV, matK, objM, renO, roSame, lh, born, AObj.born, AObj.live, injOk, kindOf, rens_ints, okIns_ints, List.range, List.range.loop, mrg, mset]
        · simp [ren, rens, sg, sig, okIn, okIns, exK, leK, leF, leV, matK, objM, renO, roSame, lh, born, AObj.born, AObj.live, injOk, kindOf, rens_ints, okIns_ints, List.range, List.range.loop, mrg, mset]
        cases hfl : (d.got l == 1 && flatB dx dy w' v' q x y) with
        | false =>
          cases htt : (d.got l == 1) with
          | false =>
            simp (maxSteps := 2000000) only [↓vP0, vQ0, vT0, simprocAttr, htt]
            refine callK_read (c_context t ho.1 dx dy true kd ho.2.2 w v w' v' u q hub hr hu hq x y hxs hys) [0, 1, 2] ?_ ?_ ?_ rfl ?_
            · simp [ren, rens, sg, sig, okIn, okIns, exK, leK, leF, leV, matK, objM, renO, roSame, lh, born, AObj.born, AObj.live, injOk, kindOf, rens_ints, okIns_ints, List.range, List.range.loop, mrg, mset]
            · simp [ren, rens, sg, sig, okIn, okIns, exK, leK, leF, leV, matK, objM, renO, roSame, lh, born, AObj.born, AObj.live, injOk, kindOf, rens_ints, okIns_ints, List.range, List.range.loop, mrg, mset]
            · simp [ren, rens, sg, sig, okIn, okIns, exK, leK, leF, leV, matK, objM, renO, roSame, lh, born, AObj.born, AObj.live, injOk, kindOf, rens_ints, okIns_ints, List.range, List.range.loop, mrg, mset]
            rw [hc]
            simp (maxSteps := 2000000) only [↓vP0, vQ0, vT0, simprocAttr]
            simp (disch := omega) only [wr64, wru64, wru8, tdv, tmd, fdv]
            rw [← Int.natCast_add]
            refine callK_det (c_pGet D hO.1 (base + c) (by have := hO.2.2.1; omega) (by rw [hO.2.2.2]; exact hcl)) [3, 4, 5] ?_ ?_ ?_ rfl (by simp [pDecL, pDecC_rens, pDecC_okIns, pDecC_inj]) ?_
            · simp [ren, rens, sg, sig, okIn, okIns, exK, leK, leF, leV, matK, objM, renO, roSame, lh, born, AObj.born, AObj.live, injOk, kindOf, rens_ints, okIns_ints, List.range, List.range.loop, mrg, mset, pDecL, pDecC_rens, pDecC_okIns, pDecC_inj]
            · simp [ren, rens, sg, sig, okIn, okIns, exK, leK, leF, leV, matK, objM, renO, roSame, lh, born, AObj.born, AObj.live, injOk, kindOf, rens_ints, okIns_ints, List.range, List.range.loop, mrg, mset, pDecL, pDecC_rens, pDecC_okIns, pDecC_inj]
            · simp [ren, rens, sg, sig, okIn, okIns, exK, leK, leF, leV, matK, objM, renO, roSame, lh, born, AObj.born, AObj.live, injOk, kindOf, rens_ints, okIns_ints, List.range, List.range.loop, mrg, mset, pDecL, pDecC_rens, pDecC_okIns, pDecC_inj]
            simp only [pDecL]
            simp (maxSteps := 2000000) only [↓vP0, vQ0, vT0, simprocAttr, pDecC_rens]
            have hR2 := hO.after (c := base + c) (by omega)
            have hcod : (D.after (base + c)).code = D.code := hR2.2.2.2.trans hO.2.2.2.symm
            rcases derr D (base + c) with ⟨h0, h1⟩ | ⟨h6, h7⟩
            · have e0 : (D.err (base + c) != 0) = false := by rw [h0]; rfl
              have hg := got01 D (base + c)
              have e3 : IntKind.u8.wrap (D.got (base + c)) = D.got (base + c) := u8w _ hg
              rw [rowRun_got _ _ _ _ _ _ _ _ _ _ _ _ _ _ _ hfl (by rw [hcc]; exact h0), hcc] at hrun
              simp (maxSteps := 2000000) only [↓vP0, vQ0, vT0, simprocAttr, e0, e1, e2, e3]
              refine chk_intro (by omega) ?_
              simp (maxSteps := 2000000) only [↓vP0, vQ0, vT0, simprocAttr, e3]
              refine chk_intro (by omega) ?_
              simp (maxSteps := 2000000) only [↓vP0, vQ0, vT0, simprocAttr, ints_set, e3]
              simp (disch := omega) only [wr64, wru64, wru8, tdv, tmd, fdv]
              refine ⟨(x + 1, D.after (base + c), u.set (ixP w y x) (D.got (base + c))), ⟨by simp only; omega, ⟨hR2, hu.set _ hg, by simpa using hul⟩, by simpa only [show w.toNat - (x + 1) = k by omega, htt] using hrun⟩, by simp only; omega, ?_⟩
              simp only [rowL, hcod, List.length_set, ixP, Int.natCast_add, Int.cast_ofNat_Int]
              (refine ⟨by simp [leF, leV] <;> rfl, ⟨_, by first | rfl | exact (List.append_nil _).symm⟩, by simp, by simp [okIns, okIn, okIns_ints, pDecC_okIns], by simp [AObj.born, okIns, okIn, AObj.cells, okIns_ints, pDecC_okIns]⟩)
            · have e0 : (D.err (base + c) != 0) = true := by rw [h6]; rfl
              rw [rowRun_stop _ _ _ _ _ _ _ _ _ _ _ _ _ _ _ hfl (by rw [hcc, h6]; simp), hcc] at hrun
              simp (maxSteps := 2000000) only [↓vP0, vQ0, vT0, simprocAttr, e0]
              subst hrun
              rw [← hcod]
              exact exit_keep (L1 := rowL t dx dy true kd w v w' v' q (D.after (base + c)) u) ⟨rfl, rfl⟩ trivial (hkeep _ _ (hcod.trans (hO.2.2.2.trans hI.1.2.2.2.symm)))
          | true =>
            rw [htt, Bool.true_and] at hfl
            simp (maxSteps := 2000000) only [↓vP0, vQ0, vT0, simprocAttr, htt, hfl]
            refine callK_read (c_context t ho.1 dx dy true kd ho.2.2 w v w' v' u q hub hr hu hq x y hxs hys) [0, 1, 2] ?_ ?_ ?_ rfl ?_
            · simp [ren, rens, sg, sig, okIn, okIns, exK, leK, leF, leV, matK, objM, renO, roSame, lh, born, AObj.born, AObj.live, injOk, kindOf, rens_ints, okIns_ints, List.range, List.range.loop, mrg, mset]
            · simp [ren, rens, sg, sig, okIn, okIns, exK, leK, leF, leV, matK, objM, renO, roSame, lh, born, AObj.born, AObj.live, injOk, kindOf, rens_ints, okIns_ints, List.range, List.range.loop, mrg, mset]
            · simp [ren, rens, sg, sig, okIn, okIns, exK, leK, leF, leV, matK, objM, renO, roSame, lh, born, AObj.born, AObj.live, injOk, kindOf, rens_ints, okIns_ints, List.range, List.range.loop, mrg, mset]
            rw [hc]
            simp (maxSteps := 2000000) only [↓vP0, vQ0, vT0, simprocAttr]
            simp (disch := omega) only [wr64, wru64, wru8, tdv, tmd, fdv]
            rw [← Int.natCast_add]
            refine callK_det (c_pGet D hO.1 (base + c) (by have := hO.2.2.1; omega) (by rw [hO.2.2.2]; exact hcl)) [3, 4, 5] ?_ ?_ ?_ rfl (by simp [pDecL, pDecC_rens, pDecC_okIns, pDecC_inj]) ?_
            · simp [ren, rens, sg, sig, okIn, okIns, exK, leK, leF, leV, matK, objM, renO, roSame, lh, born, AObj.born, AObj.live, injOk, kindOf, rens_ints, okIns_ints, List.range, List.range.loop, mrg, mset, pDecL, pDecC_rens, pDecC_okIns, pDecC_inj]
            · simp [ren, rens, sg, sig, okIn, okIns, exK, leK, leF, leV, matK, objM, renO, roSame, lh, born, AObj.born, AObj.live, injOk, kindOf, rens_ints, okIns_ints, List.range, List.range.loop, mrg, mset, pDecL, pDecC_rens, pDecC_okIns, pDecC_inj]
            · simp [ren, rens, sg, sig, okIn, okIns, exK, leK, leF, leV, matK, objM, renO, roSame, lh, born, AObj.born, AObj.live, injOk, kindOf, rens_ints, okIns_ints, List.range, List.range.loop, mrg, mset, pDecL, pDecC_rens, pDecC_okIns, pDecC_inj]
            simp only [pDecL]
            simp (maxSteps := 2000000) only [↓vP0, vQ0, vT0, simprocAttr, pDecC_rens]
            have hR2 := hO.after (c := base + c) (by omega)
            have hcod : (D.after (base + c)).code = D.code := hR2.2.2.2.trans hO.2.2.2.symm
            rcases derr D (base + c) with ⟨h0, h1⟩ | ⟨h6, h7⟩
            · have e0 : (D.err (base + c) != 0) = false := by rw [h0]; rfl
              have hg := got01 D (base + c)
              have e3 : IntKind.u8.wrap (D.got (base + c)) = D.got (base + c) := u8w _ hg
              rw [rowRun_got _ _ _ _ _ _ _ _ _ _ _ _ _ _ _ (by rw [htt, hfl]; rfl) (by rw [hcc]; exact h0), hcc] at hrun
              simp (maxSteps := 2000000) only [↓vP0, vQ0, vT0, simprocAttr, e0, e1, e2, e3]
              refine chk_intro (by omega) ?_
              simp (maxSteps := 2000000) only [↓vP0, vQ0, vT0, simprocAttr, e3]
              refine chk_intro (by omega) ?_
              simp (maxSteps := 2000000) only [↓vP0, vQ0, vT0, simprocAttr, ints_set, e3]
              simp (disch := omega) only [wr64, wru64, wru8, tdv, tmd, fdv]
              refine ⟨(x + 1, D.after (base + c), u.set (ixP w y x) (D.got (base + c))), ⟨by simp only; omega, ⟨hR2, hu.set _ hg, by simpa using hul⟩, by simpa only [show w.toNat - (x + 1) = k by omega, htt] using hrun⟩, by simp only; omega, ?_⟩
              simp only [rowL, hcod, List.length_set, ixP, Int.natCast_add, Int.cast_ofNat_Int]
              (refine ⟨by simp [leF, leV] <;> rfl, ⟨_, by first | rfl | exact (List.append_nil _).symm⟩, by simp, by simp [okIns, okIn, okIns_ints, pDecC_okIns], by simp [AObj.born, okIns, okIn, AObj.cells, okIns_ints, pDecC_okIns]⟩)
            · have e0 : (D.err (base + c) != 0) = true := by rw [h6]; rfl
              rw [rowRun_stop _ _ _ _ _ _ _ _ _ _ _ _ _ _ _ (by rw [htt, hfl]; rfl) (by rw [hcc, h6]; simp), hcc] at hrun
              simp (maxSteps := 2000000) only [↓vP0, vQ0, vT0, simprocAttr, e0]
              subst hrun
              rw [← hcod]
              exact exit_keep (L1 := rowL t dx dy true kd w v w' v' q (D.after (base + c)) u) ⟨rfl, rfl⟩ trivial (hkeep _ _ (hcod.trans (hO.2.2.2.trans hI.1.2.2.2.symm)))
        | true =>
          have hfl2 := hfl
          rw [Bool.and_eq_true] at hfl2
          have e4 := flatC01 hq dx dy w' v' x y
          rw [rowRun_flat _ _ _ _ _ _ _ _ _ _ _ _ _ _ _ hfl] at hrun
          simp (maxSteps := 2000000) only [↓vP0, vQ0, vT0, simprocAttr, hfl2.1, hfl2.2, e1, e2]
          refine chk_intro (by omega) ?_
          simp (maxSteps := 2000000) only [↓vP0, vQ0, vT0, simprocAttr]
          refine chk_intro (by omega) ?_
          simp (maxSteps := 2000000) only [↓vP0, vQ0, vT0, simprocAttr, ints_set]
          simp (disch := omega) only [wr64, wru64, wru8, tdv, tmd, fdv]
          refine ⟨(x + 1, D, u.set (ixP w y x) (flatC dx dy w' v' q x y)), ⟨by simp only; omega, ⟨hO, hu.set _ e4, by simpa using hul⟩, by simpa only [show w.toNat - (x + 1) = k by omega, hfl2.1] using hrun⟩, by simp only; omega, ?_⟩
          simp only [rowL, List.length_set, ixP, Int.natCast_add, Int.cast_ofNat_Int]
          (refine ⟨by simp [leF, leV] <;> rfl, ⟨_, by first | rfl | exact (List.append_nil _).symm⟩, by simp, by simp [okIns, okIn, okIns_ints, pDecC_okIns], by simp [AObj.born, okIns, okIn, AObj.cells, okIns_ints, pDecC_okIns]⟩)
      · have hxw : w.toNat - x = 0 := by omega
        rw [hxw, row_done] at hrun
        simp (maxSteps := 2000000) only [↓vP0, vQ0, vT0, simprocAttr]
        subst hrun
        exact exit_keep (L1 := rowL t dx dy true kd w v w' v' q D u) ⟨rfl, rfl⟩ trivial (hkeep _ _ (hO.2.2.2.trans hI.1.2.2.2.symm))
    · have e0 : (d.err l != 0) = true := by rw [h6]; rfl
      have hRA' : RA = ⟨d.after l, p, d.err l⟩ := by rw [← hRA, rowAll, if_pos rfl, hl1, if_pos (by rw [h6]; simp)]
      simp (maxSteps := 2000000) only [↓vP0, vQ0, vT0, simprocAttr, e0]
      subst hRA'
      have hx := exit_keep (L0 := rowL t dx dy true kd w v w' v' q d p) (L1 := rowL t dx dy true kd w v w' v' q (d.after l) p) (G := []) (R := fun r L => r = .int .i64 (d.err l) ∧ L = rowL t dx dy true kd w v w' v' q (d.after l) p) (r := .int .i64 (d.err l)) ⟨rfl, rfl⟩ trivial (hkeep _ _ hcod1)
      simpa only [rowL, hcod1, List.append_nil] using hx
end Go.Proofs.Ytbfefpkhalegmaa

set_option linter.unusedVariables false
set_option linter.unusedSimpArgs false
namespace Go.Proofs.Ytbfefpkhalegmaa
open Go
set_option maxHeartbeats 4000000
set_option maxRecDepth 20000

theorem bmB_ok {w v : Int} {p : List Int} (hby : ByOk p) (h : bmB w v p = true) : BmOk w v p ∧ PixOk p := by
  simp only [bmB, Bool.and_eq_true, decide_eq_true_eq] at h
  refine ⟨⟨(sizeB_iff w v).1 h.1.1, h.1.2⟩, ?_⟩
  have h2 := h.2
  simp only [rowB, List.all_eq_true] at h2
  intro z hz
  have h3 := h2 z hz
  have h4 := hby z hz
  simp only [decide_eq_true_eq] at h3
  omega

section
variable (t dx dy : Int) (ty : Bool) (kd base w v w' v' : Int) (q : List Int) (d : Dec)
def gAsk : Int := askErr t dx dy kd (sizeB w v && bmB w' v' q) base d.st.length
def gRun : RS := regGet t dx dy base.toNat w v w' v' q ty d
def gE : Int := if gAsk t dx dy kd base w v w' v' q d ≠ 0 then gAsk t dx dy kd base w v w' v' q d else (gRun t dx dy ty base w v w' v' q d).err
def gP : List Int := if gE t dx dy ty kd base w v w' v' q d ≠ 0 then [] else (gRun t dx dy ty base w v w' v' q d).p
def gW : Int := if gE t dx dy ty kd base w v w' v' q d ≠ 0 then 0 else w
def gV : Int := if gE t dx dy ty kd base w v w' v' q d ≠ 0 then 0 else v
def gD : Dec := if gAsk t dx dy kd base w v w' v' q d ≠ 0 then d else (gRun t dx dy ty base w v w' v' q d).d
end
abbrev getL (d : Dec) (q : List Int) : List AObj := pDecL d ++ [.ro (ints .u8 q) 5]
theorem c_p8Get (d : Dec) (hd : d.Ok) (hl : d.st.length ≤ 8192) (hcl : d.code.length ≤ 1099511627776) (base : Int) (hbase : I64 base) (t dx dy : Int) (hx : I64 dx) (hy : I64 dy) (ty : Bool) (kd : Int) (w v w' v' : Int) (q : List Int) (hql : q.length ≤ 9223372036854775807) (hby : ByOk q) :
    LCall Try.prog 49 [.ptr 0 0, .int .i64 base, optV t dx dy ty kd, .int .i64 w, .int .i64 v, bmV w' v' 3 q.length] (getL d q) fun r L =>
      r = .tup [bmV (gW t dx dy ty kd base w v w' v' q d) (gV t dx dy ty kd base w v w' v' q d) 4 (gP t dx dy ty kd base w v w' v' q d).length, .int .i64 (gE t dx dy ty kd base w v w' v' q d)] ∧
      L = pDecL (gD t dx dy ty kd base w v w' v' q d) ++ [.ro (ints .u8 q) 5, .own (ints .u8 (gP t dx dy ty kd base w v w' v' q d)) 5] := by
  have fail : ∀ a, gAsk t dx dy kd base w v w' v' q d = a → a ≠ 0 → gE t dx dy ty kd base w v w' v' q d = a ∧ gP t dx dy ty kd base w v w' v' q d = [] ∧ gW t dx dy ty kd base w v w' v' q d = 0 ∧ gV t dx dy ty kd base w v w' v' q d = 0 ∧ gD t dx dy ty kd base w v w' v' q d = d := by
    intro a h h0
    have e : gE t dx dy ty kd base w v w' v' q d = a := by rw [gE, if_pos (by rw [h]; exact h0), h]
    exact ⟨e, by rw [gP, if_pos (by rw [e]; exact h0)], by rw [gW, if_pos (by rw [e]; exact h0)], by rw [gV, if_pos (by rw [e]; exact h0)], by rw [gD, if_pos (by rw [h]; exact h0)]⟩
  refine lcall_of_vcB tyok Try.func49 rfl (by rfl) Try.results49 Try.ntmps49 ?_; intro C hD
  simp only [getL, pDecL] at hD ⊢
  simp (maxSteps := 2000000) only [↓vP0, vQ0, vT0, simprocAttr]
  refine callK_read (c_pGetBad d) [0, 1, 2] ?_ ?_ ?_ rfl ?_
  · simp [ren, rens, sg, sig, okIn, okIns, exK, leK, leF, leV, matK, objM, renO, roSame, lh, born, AObj.born, AObj.live, injOk, kindOf, rens_ints, okIns_ints, List.range, List.range.loop, mrg, mset, pDecR, pDecC_rens, pDecC_okIns, pDecC_inj]
  · simp [ren, rens, sg, sig, okIn, okIns, exK, leK, leF, leV, matK, objM, renO, roSame, lh, born, AObj.born, AObj.live, injOk, kindOf, rens_ints, okIns_ints, List.range, List.range.loop, mrg, mset, pDecR, pDecC_rens, pDecC_okIns, pDecC_inj]
  · simp [ren, rens, sg, sig, okIn, okIns, exK, leK, leF, leV, matK, objM, renO, roSame, lh, born, AObj.born, AObj.live, injOk, kindOf, rens_ints, okIns_ints, List.range, List.range.loop, mrg, mset, pDecR, pDecC_rens, pDecC_okIns, pDecC_inj]
  simp (maxSteps := 2000000) only [↓vP0, vQ0, vT0, simprocAttr]
  refine callK_pure (c_pRefValid t dx dy hx hy ty kd) rfl rfl ?_
  by_cases ho : OptOk t dx dy kd
  case neg =>
    obtain ⟨f1, f2, f3, f4, f5⟩ := fail 2 (by rw [gAsk, askErr, if_pos ho]) (by omega)
    rw [f1, f2, f3, f4, f5]
    simp (maxSteps := 2000000) only [↓vP0, vQ0, vT0, simprocAttr, dN ho]
    refine exitB_of [(5, .fr 0 [0, 2])] ?_
    simp (maxSteps := 2000000) only [↓vP0, vQ0, vT0, simprocAttr]
    refine exit_of [7] (.tup [bmV 0 0 4 0, .int .i64 2]) (pDecL d ++ [.ro (ints .u8 q) 5, .own (ints .u8 []) 5]) ⟨rfl, rfl⟩ ?_ ?_ rfl ?_ ?_
    all_goals simp [ren, rens, sg, sig, okIn, okIns, exK, leK, leF, leV, matK, objM, renO, roSame, lh, born, AObj.born, AObj.live, injOk, kindOf, rens_ints, okIns_ints, List.range, List.range.loop, mrg, mset, pDecL, pDecC_rens, pDecC_okIns, pDecC_inj, ints_nil]
  case pos =>
    simp (maxSteps := 2000000) only [↓vP0, vQ0, vT0, simprocAttr, dT ho]
    by_cases hsz : SizeOk w v
    case neg =>
      have hsb : sizeB w v = false := by
        cases h : sizeB w v with
        | false => rfl
        | true => exact absurd ((sizeB_iff w v).1 h) hsz
      obtain ⟨f1, f2, f3, f4, f5⟩ := fail 30 (by rw [gAsk, askErr, if_neg (not_not_intro ho), hsb, Bool.false_and, if_pos rfl]) (by omega)
      rw [f1, f2, f3, f4, f5]
      refine callK_pure (c_bNewBad w v hsz) rfl rfl ?_
      have e0 : ((if w < 0 ∨ v < 0 then (2 : Int) else 4) != 0) = true := by split <;> rfl
      simp (maxSteps := 2000000) only [↓vP0, vQ0, vT0, simprocAttr, e0]
      refine exitB_of [(5, .fr 0 [0, 2])] ?_
      simp (maxSteps := 2000000) only [↓vP0, vQ0, vT0, simprocAttr]
      refine exit_of [8] (.tup [bmV 0 0 4 0, .int .i64 30]) (pDecL d ++ [.ro (ints .u8 q) 5, .own (ints .u8 []) 5]) ⟨rfl, rfl⟩ ?_ ?_ rfl ?_ ?_
      all_goals simp [ren, rens, sg, sig, okIn, okIns, exK, leK, leF, leV, matK, objM, renO, roSame, lh, born, AObj.born, AObj.live, injOk, kindOf, rens_ints, okIns_ints, List.range, List.range.loop, mrg, mset, pDecL, pDecC_rens, pDecC_okIns, pDecC_inj, ints_nil]
    case pos =>
      have hsb : sizeB w v = true := (sizeB_iff w v).2 hsz
      obtain ⟨s0, s1, s2, s3, s4⟩ := id hsz
      have hm := area_bd s0 s1 s2 s3
      obtain ⟨n, hn⟩ : ∃ n : Nat, w * v = (n : Int) := ⟨_, (Int.toNat_of_nonneg (by omega)).symm⟩
      refine callK_det (c_bNew w v hsz n hn.symm) [] ?_ ?_ ?_ rfl (by simp) ?_
      · simp [ren, rens, sg, sig, okIn, okIns, exK, leK, leF, leV, matK, objM, renO, roSame, lh, born, AObj.born, AObj.live, injOk, kindOf, rens_ints, okIns_ints, List.range, List.range.loop, mrg, mset]
      · simp [ren, rens, sg, sig, okIn, okIns, exK, leK, leF, leV, matK, objM, renO, roSame, lh, born, AObj.born, AObj.live, injOk, kindOf, rens_ints, okIns_ints, List.range, List.range.loop, mrg, mset]
      · simp [ren, rens, sg, sig, okIn, okIns, exK, leK, leF, leV, matK, objM, renO, roSame, lh, born, AObj.born, AObj.live, injOk, kindOf, rens_ints, okIns_ints, List.range, List.range.loop, mrg, mset]
      simp (maxSteps := 2000000) only [↓vP0, vQ0, vT0, simprocAttr]
      refine callK_read (c_pBmValid w' v' q hql) [3] ?_ ?_ ?_ rfl ?_
      · simp [ren, rens, sg, sig, okIn, okIns, exK, leK, leF, leV, matK, objM, renO, roSame, lh, born, AObj.born, AObj.live, injOk, kindOf, rens_ints, okIns_ints, List.range, List.range.loop, mrg, mset]
      · simp [ren, rens, sg, sig, okIn, okIns, exK, leK, leF, leV, matK, objM, renO, roSame, lh, born, AObj.born, AObj.live, injOk, kindOf, rens_ints, okIns_ints, List.range, List.range.loop, mrg, mset]
      · simp [ren, rens, sg, sig, okIn, okIns, exK, leK, leF, leV, matK, objM, renO, roSame, lh, born, AObj.born, AObj.live, injOk, kindOf, rens_ints, okIns_ints, List.range, List.range.loop, mrg, mset]
      cases hr1 : bmB w' v' q with
      | false =>
        obtain ⟨f1, f2, f3, f4, f5⟩ := fail 30 (by rw [gAsk, askErr, if_neg (not_not_intro ho), hr1, Bool.and_false, if_pos rfl]) (by omega)
        rw [f1, f2, f3, f4, f5]
        simp (maxSteps := 2000000) only [↓vP0, vQ0, vT0, simprocAttr]
        refine exitB_of [(5, .fr 0 [0, 2])] ?_
        simp (maxSteps := 2000000) only [↓vP0, vQ0, vT0, simprocAttr]
        refine exit_of [9] (.tup [bmV 0 0 4 0, .int .i64 30]) (pDecL d ++ [.ro (ints .u8 q) 5, .own (ints .u8 []) 5]) ⟨rfl, rfl⟩ ?_ ?_ rfl ?_ ?_
        all_goals simp [ren, rens, sg, sig, okIn, okIns, exK, leK, leF, leV, matK, objM, renO, roSame, lh, born, AObj.born, AObj.live, injOk, kindOf, rens_ints, okIns_ints, List.range, List.range.loop, mrg, mset, pDecL, pDecC_rens, pDecC_okIns, pDecC_inj, ints_nil]
      | true =>
        simp (maxSteps := 2000000) only [↓vP0, vQ0, vT0, simprocAttr]
        refine drawK_of tyok rfl (usL [[], [], [], [1]]) (fun i => .below 9) (by kernel_rfl) ?_
        simp (maxSteps := 2000000) only [↓vP0, vQ0, vT0, simprocAttr]
        refine callK_det (c_pDModel d hl) [0, 1, 2] ?_ ?_ ?_ rfl (by simp [pDecR, pDecC_rens, pDecC_okIns, pDecC_inj]) ?_
        · simp [ren, rens, sg, sig, okIn, okIns, exK, leK, leF, leV, matK, objM, renO, roSame, lh, born, AObj.born, AObj.live, injOk, kindOf, rens_ints, okIns_ints, List.range, List.range.loop, mrg, mset, pDecR, pDecC_rens, pDecC_okIns, pDecC_inj]
        · simp [ren, rens, sg, sig, okIn, okIns, exK, leK, leF, leV, matK, objM, renO, roSame, lh, born, AObj.born, AObj.live, injOk, kindOf, rens_ints, okIns_ints, List.range, List.range.loop, mrg, mset, pDecR, pDecC_rens, pDecC_okIns, pDecC_inj]
        · simp [ren, rens, sg, sig, okIn, okIns, exK, leK, leF, leV, matK, objM, renO, roSame, lh, born, AObj.born, AObj.live, injOk, kindOf, rens_ints, okIns_ints, List.range, List.range.loop, mrg, mset, pDecR, pDecC_rens, pDecC_okIns, pDecC_inj]
        simp only [pDecR]
        simp (maxSteps := 2000000) only [↓vP0, vQ0, vT0, simprocAttr, pDecC_rens]
        refine callK_read (c_refFits t dx dy ho.1 ty kd base d.kd d.st hl) [9] ?_ ?_ ?_ rfl ?_
        · simp [ren, rens, sg, sig, okIn, okIns, exK, leK, leF, leV, matK, objM, renO, roSame, lh, born, AObj.born, AObj.live, injOk, kindOf, rens_ints, okIns_ints, List.range, List.range.loop, mrg, mset]
        · simp [ren, rens, sg, sig, okIn, okIns, exK, leK, leF, leV, matK, objM, renO, roSame, lh, born, AObj.born, AObj.live, injOk, kindOf, rens_ints, okIns_ints, List.range, List.range.loop, mrg, mset]
        · simp [ren, rens, sg, sig, okIn, okIns, exK, leK, leF, leV, matK, objM, renO, roSame, lh, born, AObj.born, AObj.live, injOk, kindOf, rens_ints, okIns_ints, List.range, List.range.loop, mrg, mset]
        by_cases hfit : 0 ≤ base ∧ base ≤ (d.st.length : Int) - sizeN t
        case neg =>
          have hask : gAsk t dx dy kd base w v w' v' q d = 2 := by rw [gAsk, askErr, if_neg (not_not_intro ho), hsb, hr1, Bool.true_and, if_neg (by simp), if_pos (by omega)]
          obtain ⟨f1, f2, f3, f4, f5⟩ := fail 2 hask (by omega)
          rw [f1, f2, f3, f4, f5]
          simp (maxSteps := 2000000) only [↓vP0, vQ0, vT0, simprocAttr, dN hfit]
          refine exitB_of [(5, .fr 0 [0, 2])] ?_
          simp (maxSteps := 2000000) only [↓vP0, vQ0, vT0, simprocAttr]
          refine exit_of [10] (.tup [bmV 0 0 4 0, .int .i64 2]) (pDecL d ++ [.ro (ints .u8 q) 5, .own (ints .u8 []) 5]) ⟨rfl, rfl⟩ ?_ ?_ rfl ?_ ?_
          all_goals simp [ren, rens, sg, sig, okIn, okIns, exK, leK, leF, leV, matK, objM, renO, roSame, lh, born, AObj.born, AObj.live, injOk, kindOf, rens_ints, okIns_ints, List.range, List.range.loop, mrg, mset, pDecL, pDecC_rens, pDecC_okIns, pDecC_inj, ints_nil]
        case pos =>
          obtain ⟨hr, hq⟩ := bmB_ok hby hr1
          obtain ⟨b, rfl⟩ : ∃ b : Nat, base = (b : Int) := ⟨_, (Int.toNat_of_nonneg hfit.1).symm⟩
          have hask : gAsk t dx dy kd b w v w' v' q d = 0 := by rw [gAsk, askErr, if_neg (not_not_intro ho), hsb, hr1, Bool.true_and, if_neg (by simp), if_neg (by omega)]
          have hs0 : sizeN t = 513 ∨ sizeN t = 129 := by unfold sizeN; split <;> simp
          have hb0 : b + (sizeN t).toNat ≤ d.st.length := by omega
          obtain ⟨g1, g2, g3, g4, g5⟩ : (gE t dx dy ty kd b w v w' v' q d = (gRun t dx dy ty b w v w' v' q d).err) ∧ (gP t dx dy ty kd b w v w' v' q d = if (gRun t dx dy ty b w v w' v' q d).err ≠ 0 then [] else (gRun t dx dy ty b w v w' v' q d).p) ∧
              (gW t dx dy ty kd b w v w' v' q d = if (gRun t dx dy ty b w v w' v' q d).err ≠ 0 then 0 else w) ∧ (gV t dx dy ty kd b w v w' v' q d = if (gRun t dx dy ty b w v w' v' q d).err ≠ 0 then 0 else v) ∧ gD t dx dy ty kd b w v w' v' q d = (gRun t dx dy ty b w v w' v' q d).d := by
            simp [gE, gP, gW, gV, gD, hask]
          rw [g1, g2, g3, g4, g5]
          generalize hRG : gRun t dx dy ty b w v w' v' q d = RG
          have hRG' : regRun t dx dy b w v w' v' q ty v.toNat 0 d (zeros n) = RG := by rw [← hRG]; unfold gRun regGet; rw [hn]; rfl
          have ew : IntKind.i64.wrap (w * v) = (n : Int) := by rw [hn]; simp (disch := omega) only [wr64, wru64, wru8, tdv, tmd, fdv]
          have hzl := zeros_len n
          have hI : RInv d (w * v).toNat d (zeros n) := ⟨⟨hd, rfl, rfl, rfl⟩, fun z hz => by simp [zeros] at hz; omega, by rw [hn]; simp [zeros]⟩
          simp (maxSteps := 2000000) only [↓vP0, vQ0, vT0, simprocAttr, dT hfit]
          refine drawK_of tyok rfl (usL [[6], [], [], [], [], [], [], [6]]) (fun i => .below 10) (by kernel_rfl) ?_
          simp (maxSteps := 2000000) only [↓vP0, vQ0, vT0, simprocAttr, ew]
          refine chk_intro (by omega) ?_
          simp (maxSteps := 2000000) only [↓vP0, vQ0, vT0, simprocAttr]
          refine callK_det (c_newRegion t dx dy ty kd w v w' v' (zeros n) q) [10, 3] ?_ ?_ ?_ rfl (by simp [zeros]) ?_
          · simp [ren, rens, sg, sig, okIn, okIns, exK, leK, leF, leV, matK, objM, renO, roSame, lh, born, AObj.born, AObj.live, injOk, kindOf, rens_ints, okIns_ints, List.range, List.range.loop, mrg, mset, zeros]
          · simp [ren, rens, sg, sig, okIn, okIns, exK, leK, leF, leV, matK, objM, renO, roSame, lh, born, AObj.born, AObj.live, injOk, kindOf, rens_ints, okIns_ints, List.range, List.range.loop, mrg, mset, zeros]
          · simp [ren, rens, sg, sig, okIn, okIns, exK, leK, leF, leV, matK, objM, renO, roSame, lh, born, AObj.born, AObj.live, injOk, kindOf, rens_ints, okIns_ints, List.range, List.range.loop, mrg, mset, zeros]
          simp (maxSteps := 2000000) only [↓vP0, vQ0, vT0, simprocAttr]
          refine loopK_of tyok hD (α := Nat × Dec × List Int) (fun s => (s.1 : Int) ≤ v ∧ RInv d (w * v).toNat s.2.1 s.2.2 ∧ regRun t dx dy b w v w' v' q ty (v.toNat - s.1) s.1 s.2.1 s.2.2 = RG) (fun s => v.toNat - s.1)
            (fun s => [.ptr 0 0, .int .i64 b, .junk, .int .i64 w, .int .i64 v, .junk, .junk, .junk, .junk, .junk, .junk, .junk, .ptr 6 0, .junk, .junk, .junk, .junk, .junk, .ptr 11 0, .junk, .junk, .junk, .junk, .junk, .junk, .junk, .junk, .junk, .junk, .junk, .junk, .junk, .junk, .junk, .junk, .junk, .junk, .junk, .junk, .junk, .junk, .junk, .junk, .junk, .junk, .junk, .junk, .junk, .junk, .junk, .junk, .junk, .junk, .junk, .junk, .junk, .junk, .junk, .junk, .junk, .junk, .junk, .junk, .junk, .int .i64 v, .int .i64 s.1, .junk, .junk, .junk, .junk, .junk, .junk, .junk, .junk, .junk, .junk, .junk, .junk, .junk, .junk, .junk, .junk, .junk, .junk, .junk, .junk])
            (fun s => [.own (pDecC s.2.1 1 2) 154, .own (ints .i64 s.2.1.st) 3, .ro (ints .u8 d.code) 5, .ro (ints .u8 q) 5, optC t dx dy ty kd, bmC w' v' 3 q.length, .own [.int .i64 0, .int .i64 0, .nilslice] 48, .own (ints .u8 (zeros n)) 5, bmC w v 7 (zeros n).length, .own (ints .i64 d.st) 3,
              .own (ints .u8 s.2.2) 5, .own (regC t dx dy ty kd w v w' v' 10 s.2.2.length 3 q.length) 142]) (0, d, zeros n) ⟨by simp; omega, hI, by simpa using hRG'⟩ ?_ ?_
          · (refine ⟨by simp [leF, leV] <;> rfl, ⟨_, by first | rfl | exact (List.append_nil _).symm⟩, by simp, by simp [okIns, okIn, okIns_ints, pDecC_okIns, zeros], by simp [AObj.born, okIns, okIn, AObj.cells, okIns_ints, pDecC_okIns, zeros]⟩)
          rintro ⟨y, D, u⟩ ⟨hy, hE, hrun⟩
          simp only at hy hE hrun
          have hcd : D.code = d.code := hE.1.2.2.2
          simp (maxSteps := 2000000) only [↓vP0, vQ0, vT0, simprocAttr]
          (with_reducible first | refine condK_dec (fun h => ?_) (fun h => ?_) | refine condK_beq (fun h => ?_) (fun h => ?_) | refine condK_bne (fun h => ?_) (fun h => ?_) | refine condK_intro (fun h => ?_) (fun h => ?_))
          · simp (maxSteps := 2000000) only [↓vP0, vQ0, vT0, simprocAttr]
            refine callK_det (c_row d b t dx dy ty kd ho w v w' v' q hsz hr hq hb0 hl hcl y (by omega) D u hE) [11, 10, 3, 0, 1, 2] ?_ ?_ ?_ rfl (by simp [rowL, pDecC_rens, pDecC_okIns, pDecC_inj, hcd]) ?_
            · simp [ren, rens, sg, sig, okIn, okIns, exK, leK, leF, leV, matK, objM, renO, roSame, lh, born, AObj.born, AObj.live, injOk, kindOf, rens_ints, okIns_ints, List.range, List.range.loop, mrg, mset, rowL, pDecC_rens, pDecC_okIns, pDecC_inj, hcd]
            · simp [ren, rens, sg, sig, okIn, okIns, exK, leK, leF, leV, matK, objM, renO, roSame, lh, born, AObj.born, AObj.live, injOk, kindOf, rens_ints, okIns_ints, List.range, List.range.loop, mrg, mset, rowL, pDecC_rens, pDecC_okIns, pDecC_inj, hcd]
            · simp [ren, rens, sg, sig, okIn, okIns, exK, leK, leF, leV, matK, objM, renO, roSame, lh, born, AObj.born, AObj.live, injOk, kindOf, rens_ints, okIns_ints, List.range, List.range.loop, mrg, mset, rowL, pDecC_rens, pDecC_okIns, pDecC_inj, hcd]
            have hinv := rowAll_inv (dx := dx) (dy := dy) (w := w) (v := v) (w' := w') (v' := v') ho.1 hq hb0 ty y D u hE
            obtain ⟨k, hk⟩ : ∃ k, v.toNat - y = k + 1 := ⟨v.toNat - y - 1, by omega⟩
            rw [hk, regRun] at hrun
            generalize hRA : rowAll t dx dy b w v w' v' q ty y D u = RA at hrun hinv
            have hRc : RA.d.code = d.code := hinv.1.2.2.2
            by_cases herr : RA.err = 0
            · have e0 : (RA.err != 0) = false := by rw [herr]; rfl
              rw [if_neg (by rw [herr]; simp)] at hrun
              simp only [rowL]
              simp (maxSteps := 2000000) only [↓vP0, vQ0, vT0, simprocAttr, e0, pDecC_rens]
              simp (disch := omega) only [wr64, wru64, wru8, tdv, tmd, fdv]
              refine ⟨(y + 1, RA.d, RA.p), ⟨by simp only; omega, hinv, by simpa only [show v.toNat - (y + 1) = k by omega] using hrun⟩, by simp only; omega, ?_⟩
              simp only [Int.natCast_add, Int.cast_ofNat_Int]
              (refine ⟨by simp [leF, leV] <;> rfl, ⟨_, by first | rfl | exact (List.append_nil _).symm⟩, by simp, by simp [okIns, okIn, okIns_ints, pDecC_okIns, zeros], by simp [AObj.born, okIns, okIn, AObj.cells, okIns_ints, pDecC_okIns, zeros]⟩)
            · have e0 : (RA.err != 0) = true := by simpa only [bne_iff_ne] using herr
              rw [if_pos herr] at hrun
              subst hrun
              simp only [rowL, ne_eq, herr, not_false_eq_true, if_true]
              simp (maxSteps := 2000000) only [↓vP0, vQ0, vT0, simprocAttr, e0, pDecC_rens]
              refine exitB_of [(5, .fr 0 [0, 2])] ?_
              simp (maxSteps := 2000000) only [↓vP0, vQ0, vT0, simprocAttr]
              refine exit_of [12] (.tup [bmV 0 0 4 0, .int .i64 RA.err]) (pDecL RA.d ++ [.ro (ints .u8 q) 5, .own (ints .u8 []) 5]) ⟨by simp [herr], by simp [herr, pDecL]⟩ ?_ ?_ rfl ?_ ?_
              all_goals simp [ren, rens, sg, sig, okIn, okIns, exK, leK, leF, leV, matK, objM, renO, roSame, lh, born, AObj.born, AObj.live, injOk, kindOf, rens_ints, okIns_ints, List.range, List.range.loop, mrg, mset, pDecL, pDecC_rens, pDecC_okIns, pDecC_inj, ints_nil, herr, hRc]
          · have hyv : v.toNat - y = 0 := by omega
            rw [hyv, regRun] at hrun
            subst hrun
            simp (maxSteps := 2000000) only [↓vP0, vQ0, vT0, simprocAttr]
            refine exitB_P ?_
            refine exit_of [10] (.tup [bmV w v 4 u.length, .int .i64 0]) (pDecL D ++ [.ro (ints .u8 q) 5, .own (ints .u8 u) 5]) ⟨rfl, rfl⟩ ?_ ?_ rfl ?_ ?_
            all_goals simp [ren, rens, sg, sig, okIn, okIns, exK, leK, leF, leV, matK, objM, renO, roSame, lh, born, AObj.born, AObj.live, injOk, kindOf, rens_ints, okIns_ints, List.range, List.range.loop, mrg, mset, pDecL, pDecC_rens, pDecC_okIns, pDecC_inj, hcd]
end Go.Proofs.Ytbfefpkhalegmaa
