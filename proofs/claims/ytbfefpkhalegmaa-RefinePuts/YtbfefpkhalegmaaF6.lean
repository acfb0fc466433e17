/- A bitmap comes back (plain); the sanity check of the laws. -/
import Derived.Test.YtbfefpkhalegmaaF5
import Derived.KernelRfl
import Derived.Test.YtbfefpkhalegmaaN1
import Derived.Test.YtbfefpkhalegmaaF1
import Derived.WalkKit
import Derived.ProofKit

set_option linter.unusedVariables false
set_option linter.unusedSimpArgs false
namespace Go.Proofs.Ytbfefpkhalegmaa
open Go
set_option maxHeartbeats 4000000
set_option maxRecDepth 20000

theorem re_back {t dx dy : Int} {ty : Bool} {kd w v w' v' : Int} {p q : List Int} (hbp : ByOk p) (hbq : ByOk q) (h : reErr t dx dy kd w v p w' v' q = 0) :
    gE t dx dy ty kd 0 w v w' v' q (dec0 t kd (reCode t dx dy ty kd w v p w' v' q)) = 0 ∧ gP t dx dy ty kd 0 w v w' v' q (dec0 t kd (reCode t dx dy ty kd w v p w' v' q)) = p ∧
    gW t dx dy ty kd 0 w v w' v' q (dec0 t kd (reCode t dx dy ty kd w v p w' v' q)) = w ∧ gV t dx dy ty kd 0 w v w' v' q (dec0 t kd (reCode t dx dy ty kd w v p w' v' q)) = v := by
  have h0 := h
  unfold reErr at h
  have ho : OptOk t dx dy kd := by
    by_cases hh : OptOk t dx dy kd
    · exact hh
    · rw [if_pos hh] at h; omega
  rw [if_neg (not_not_intro ho)] at h
  have hbr : (bmB w v p && bmB w' v' q) = true := by
    cases hh : (bmB w v p && bmB w' v' q) with
    | true => rfl
    | false => rw [hh, if_pos rfl] at h; omega
  rw [Bool.and_eq_true] at hbr
  obtain ⟨hb1, hr1⟩ := hbr
  obtain ⟨hb, hp⟩ := bmB_ok hbp hb1
  obtain ⟨hr, hq⟩ := bmB_ok hbq hr1
  have hs0 : sizeN t = 513 ∨ sizeN t = 129 := by unfold sizeN; split <;> simp
  have hz := zeros_ok ho.2.1 (n := (sizeN t).toNat) (by omega)
  have hcode : reCode t dx dy ty kd w v p w' v' q = (encAll (encNew kd (zeros (sizeN t).toNat)) (refEv t dx dy ty w v p w' v' q)).fin := by rw [reCode, if_neg (by rw [h0]; simp)]; rfl
  have hf := feeds_new hz (l := refEv t dx dy ty w v p w' v' q) (by rw [zeros_len]; exact refEv_ok ho.1 hp hq)
  rw [← hcode] at hf
  have hsz : sizeB w v = true := (sizeB_iff w v).2 hb.1
  generalize reCode t dx dy ty kd w v p w' v' q = code at *
  have hask : gAsk t dx dy kd 0 w v w' v' q (dec0 t kd code) = 0 := by
    rw [gAsk, askErr, if_neg (not_not_intro ho), hsz, hr1, Bool.true_and, if_neg (by simp), if_neg ?_]
    simp [decNew, zeros]; omega
  have hrun : gRun t dx dy ty 0 w v w' v' q (dec0 t kd code) = ⟨decOf (encAll (encNew kd (zeros (sizeN t).toNat)) (refEv t dx dy ty w v p w' v' q)) code, p, 0⟩ := by
    unfold gRun
    refine regGet_feeds hb ?_
    rw [Int.toNat_zero, mv_zero]; exact hf
  simp [gE, gP, gW, gV, hask, hrun]

theorem c_Awake : LCall Try.prog 28 [] [] fun r L => r = .bool true ∧ L = [] := by
  have hbz : ByOk [0, 0, 0, 0] := fun x hx => by simp at hx; omega
  have hbn : ByOk [] := fun x hx => by cases hx
  have he : reErr 0 0 0 0 2 2 [0, 0, 0, 0] 0 0 [] = 0 := by decide
  obtain ⟨b1, b2, b3, b4⟩ := re_back (ty := true) hbz hbn he
  have ho : OptOk 0 0 0 0 := by decide
  obtain ⟨hb, hp⟩ := bmB_ok hbz (show bmB 2 2 [0, 0, 0, 0] = true by decide)
  obtain ⟨k1, k2, k3, k4, k5⟩ := reAll_ok (ty := true) (w' := 0) (v' := 0) (q := []) ho hb hp (fun z hz => by cases hz)
  have hcode : reCode 0 0 0 true 0 2 2 [0, 0, 0, 0] 0 0 [] = (reAll 0 0 0 true 0 2 2 [0, 0, 0, 0] 0 0 []).fin := by rw [reCode, if_neg (by rw [he]; simp)]
  have hcb : ByOk (reCode 0 0 0 true 0 2 2 [0, 0, 0, 0] 0 0 []) := by rw [hcode]; exact k4
  have hcl : (reCode 0 0 0 true 0 2 2 [0, 0, 0, 0] 0 0 []).length ≤ 300000 := by
    rw [hcode, Enc.fin, List.length_append]
    have : ∀ hi n, (endL hi n).length ≤ 4 := fun hi n => by simp [endL]; omega
    have := this (reAll 0 0 0 true 0 2 2 [0, 0, 0, 0] 0 0 []).hi (endN (reAll 0 0 0 true 0 2 2 [0, 0, 0, 0] 0 0 []).lo (reAll 0 0 0 true 0 2 2 [0, 0, 0, 0] 0 0 []).hi)
    omega
  have c1 := c_p8Encode 0 0 0 (by omega) (by omega) true 0 2 2 0 0 [0, 0, 0, 0] [] (by simp) (by simp) hbz hbn
  have c2 := c_p8Decode 0 0 0 (by omega) (by omega) true 0 (reCode 0 0 0 true 0 2 2 [0, 0, 0, 0] 0 0 []) hcb (by omega) 2 2 0 0 [] (by simp) hbn
  rw [he] at c1
  rw [b1, b2, b3, b4] at c2
  clear b1 b2 b3 b4 hcode k1 k2 k3 k4 k5
  generalize reCode 0 0 0 true 0 2 2 [0, 0, 0, 0] 0 0 [] = code at *
  have hz4 : ints .u8 [0, 0, 0, 0] = [.int .u8 0, .int .u8 0, .int .u8 0, .int .u8 0] := rfl
  refine lcall_of_vc tyok Try.func28 rfl (by rfl) Try.results28 Try.ntmps28 ?_; intro C hD
  simp (maxSteps := 2000000) only [↓vP0, vQ0, vT0, simprocAttr]
  refine callK_b tyok [(5, .fr 2 [2])] ?_
  simp (maxSteps := 2000000) only [↓vP0, vQ0, vT0, simprocAttr]
  refine callK_det (c1) [0, 3] ?_ ?_ ?_ rfl (by simp [hz4, ints_nil]) ?_
  · simp [ren, rens, sg, sig, okIn, okIns, exK, leK, leF, leV, matK, objM, renO, roSame, lh, born, AObj.born, AObj.live, injOk, kindOf, rens_ints, okIns_ints, List.range, List.range.loop, mrg, mset, hz4, ints_nil]
  · simp [ren, rens, sg, sig, okIn, okIns, exK, leK, leF, leV, matK, objM, renO, roSame, lh, born, AObj.born, AObj.live, injOk, kindOf, rens_ints, okIns_ints, List.range, List.range.loop, mrg, mset, hz4, ints_nil]
  · simp [ren, rens, sg, sig, okIn, okIns, exK, leK, leF, leV, matK, objM, renO, roSame, lh, born, AObj.born, AObj.live, injOk, kindOf, rens_ints, okIns_ints, List.range, List.range.loop, mrg, mset, hz4, ints_nil]
  simp (maxSteps := 2000000) only [↓vP0, vQ0, vT0, simprocAttr]
  refine callK_b tyok [(5, .fr 4 [2])] ?_
  simp (maxSteps := 2000000) only [↓vP0, vQ0, vT0, simprocAttr]
  refine callK_det (c2) [4, 5] ?_ ?_ ?_ rfl (by simp [ints_nil]) ?_
  · simp [ren, rens, sg, sig, okIn, okIns, exK, leK, leF, leV, matK, objM, renO, roSame, lh, born, AObj.born, AObj.live, injOk, kindOf, rens_ints, okIns_ints, List.range, List.range.loop, mrg, mset, ints_nil]
  · simp [ren, rens, sg, sig, okIn, okIns, exK, leK, leF, leV, matK, objM, renO, roSame, lh, born, AObj.born, AObj.live, injOk, kindOf, rens_ints, okIns_ints, List.range, List.range.loop, mrg, mset, ints_nil]
  · simp [ren, rens, sg, sig, okIn, okIns, exK, leK, leF, leV, matK, objM, renO, roSame, lh, born, AObj.born, AObj.live, injOk, kindOf, rens_ints, okIns_ints, List.range, List.range.loop, mrg, mset, ints_nil]
  simp (maxSteps := 2000000) only [↓vP0, vQ0, vT0, simprocAttr]
  refine callK_pure (c_pSize 1) rfl rfl ?_
  simp (maxSteps := 2000000) only [↓vP0, vQ0, vT0, simprocAttr]
  refine callK_read (c_SameBitmap 2 2 2 2 [0, 0, 0, 0] [0, 0, 0, 0] (by simp) (by simp)) [6, 0] ?_ ?_ ?_ rfl ?_
  · simp [ren, rens, sg, sig, okIn, okIns, exK, leK, leF, leV, matK, objM, renO, roSame, lh, born, AObj.born, AObj.live, injOk, kindOf, rens_ints, okIns_ints, List.range, List.range.loop, mrg, mset, hz4]
  · simp [ren, rens, sg, sig, okIn, okIns, exK, leK, leF, leV, matK, objM, renO, roSame, lh, born, AObj.born, AObj.live, injOk, kindOf, rens_ints, okIns_ints, List.range, List.range.loop, mrg, mset, hz4]
  · simp [ren, rens, sg, sig, okIn, okIns, exK, leK, leF, leV, matK, objM, renO, roSame, lh, born, AObj.born, AObj.live, injOk, kindOf, rens_ints, okIns_ints, List.range, List.range.loop, mrg, mset, hz4]
  simp (maxSteps := 2000000) only [↓vP0, vQ0, vT0, simprocAttr]
  exact exit_keep (L1 := []) ⟨by simp, rfl⟩ trivial trivial
end Go.Proofs.Ytbfefpkhalegmaa

set_option linter.unusedVariables false
set_option linter.unusedSimpArgs false
namespace Go.Proofs.Ytbfefpkhalegmaa
open Go
set_option maxHeartbeats 4000000
set_option maxRecDepth 20000

abbrev big : Nat := 9223372036854775807
theorem reCode_len {t dx dy : Int} {ty : Bool} {kd w v w' v' : Int} {p q : List Int} (hbp : ByOk p) (hbq : ByOk q) : (reCode t dx dy ty kd w v p w' v' q).length ≤ 300000 ∧ ByOk (reCode t dx dy ty kd w v p w' v' q) := by
  unfold reCode
  split
  · exact ⟨by simp, fun x hx => by cases hx⟩
  · rename_i h
    have h0 : reErr t dx dy kd w v p w' v' q = 0 := by omega
    unfold reErr at h0
    have ho : OptOk t dx dy kd := by
      by_cases hh : OptOk t dx dy kd
      · exact hh
      · rw [if_pos hh] at h0; omega
    rw [if_neg (not_not_intro ho)] at h0
    have hbr : (bmB w v p && bmB w' v' q) = true := by
      cases hh : (bmB w v p && bmB w' v' q) with
      | true => rfl
      | false => rw [hh, if_pos rfl] at h0; omega
    rw [Bool.and_eq_true] at hbr
    obtain ⟨hb, hp⟩ := bmB_ok hbp hbr.1
    obtain ⟨hr, hq⟩ := bmB_ok hbq hbr.2
    obtain ⟨k1, k2, k3, k4, k5⟩ := reAll_ok (ty := ty) (w' := w') (v' := v') ho hb hp hq
    refine ⟨?_, k4⟩
    rw [Enc.fin, List.length_append]
    have : ∀ hi n, (endL hi n).length ≤ 4 := fun hi n => by simp [endL]; omega
    have := this (reAll t dx dy ty kd w v p w' v' q).hi (endN (reAll t dx dy ty kd w v p w' v' q).lo (reAll t dx dy ty kd w v p w' v' q).hi)
    omega

theorem gP_len {t dx dy : Int} {ty : Bool} {kd w v w' v' : Int} {q code : List Int} (hbc : ByOk code) (hbq : ByOk q) : (gP t dx dy ty kd 0 w v w' v' q (dec0 t kd code)).length ≤ 9223372036854775807 := by
  unfold gP
  split
  · simp
  · rename_i h
    have h0 : gE t dx dy ty kd 0 w v w' v' q (dec0 t kd code) = 0 := by omega
    unfold gE at h0
    split at h0
    · rename_i hh; exact absurd h0 hh
    rename_i hask
    have hask : gAsk t dx dy kd 0 w v w' v' q (dec0 t kd code) = 0 := by omega
    rw [gAsk, askErr] at hask
    have ho : OptOk t dx dy kd := by
      by_cases hh : OptOk t dx dy kd
      · exact hh
      · rw [if_pos hh] at hask; omega
    rw [if_neg (not_not_intro ho)] at hask
    have hsr : (sizeB w v && bmB w' v' q) = true := by
      cases hh : (sizeB w v && bmB w' v' q) with
      | true => rfl
      | false => rw [hh, if_pos rfl] at hask; omega
    rw [Bool.and_eq_true] at hsr
    have hsz := (sizeB_iff w v).1 hsr.1
    obtain ⟨hr, hq⟩ := bmB_ok hbq hsr.2
    obtain ⟨hd0, hdl, hz⟩ := dec0_ok (t := t) (code := code) ho.2.1 hbc
    have hs0 : sizeN t = 513 ∨ sizeN t = 129 := by unfold sizeN; split <;> simp
    have hI : RInv (dec0 t kd code) (w * v).toNat (dec0 t kd code) (zeros (w * v).toNat) := ⟨⟨hd0, rfl, rfl, rfl⟩, fun z hz => by simp [zeros] at hz; omega, by simp [zeros]⟩
    have := (regRun_inv (dx := dx) (dy := dy) (base := 0) (w := w) (v := v) (w' := w') (v' := v') ho.1 hq (by omega) ty v.toNat 0 _ _ hI).2.2
    have hm := area_bd hsz.1 hsz.2.1 hsz.2.2.1 hsz.2.2.2.1
    have e : gRun t dx dy ty 0 w v w' v' q (dec0 t kd code) = regRun t dx dy 0 w v w' v' q ty v.toNat 0 (dec0 t kd code) (zeros (w * v).toNat) := rfl
    rw [e, this]; omega

theorem c_RefineOptions (t dx dy : Int) (hx : I64 dx) (hy : I64 dy) (ty : Bool) (kd : Int) : LCall Try.prog 5 [optV t dx dy ty kd] [] fun r L => r = .bool true ∧ L = [] := by
  refine lcall_of_vc tyok Try.func5 rfl (by rfl) Try.results5 Try.ntmps5 ?_; intro C hD
  simp (maxSteps := 2000000) only [↓vP0, vQ0, vT0, simprocAttr]
  refine callK_pure (c_pSize t) rfl rfl ?_
  simp (maxSteps := 2000000) only [↓vP0, vQ0, vT0, simprocAttr]
  refine callK_pure (c_r8Size t) rfl rfl ?_
  simp (maxSteps := 2000000) only [↓vP0, vQ0, vT0, simprocAttr]
  refine drawK_of tyok rfl (usL [[], [], [1]]) (fun i => .below 1) (by kernel_rfl) ?_
  simp (maxSteps := 2000000) only [↓vP0, vQ0, vT0, simprocAttr]
  refine callK_pure (c_pRefValid t dx dy hx hy ty kd) rfl rfl ?_
  simp (maxSteps := 2000000) only [↓vP0, vQ0, vT0, simprocAttr]
  refine callK_pure (c_rRefValid t dx dy ty kd) rfl rfl ?_
  simp (maxSteps := 2000000) only [↓vP0, vQ0, vT0, simprocAttr]
  refine callK_pure (c_Awake) rfl rfl ?_
  simp (maxSteps := 2000000) only [↓vP0, vQ0, vT0, simprocAttr]
  exact exit_keep (L1 := []) ⟨rfl, rfl⟩ trivial trivial

theorem c_RefineEncodes (t dx dy : Int) (hx : I64 dx) (hy : I64 dy) (ty : Bool) (kd w v w' v' : Int) (p q : List Int) (hpl : p.length ≤ big) (hql : q.length ≤ big) (hbp : ByOk p) (hbq : ByOk q) :
    LCall Try.prog 6 [optV t dx dy ty kd, bmV w v 0 p.length, bmV w' v' 1 q.length] (pix2L p q) fun r L => r = .bool true ∧ L = pix2L p q := by
  obtain ⟨hcl, hcb⟩ := reCode_len (t := t) (dx := dx) (dy := dy) (ty := ty) (kd := kd) (w := w) (v := v) (w' := w') (v' := v') hbp hbq
  refine lcall_of_vc tyok Try.func6 rfl (by rfl) Try.results6 Try.ntmps6 ?_; intro C hD
  simp (maxSteps := 2000000) only [↓vP0, vQ0, vT0, simprocAttr]
  refine callK_det (c_p8Encode t dx dy hx hy ty kd w v w' v' p q hpl hql hbp hbq) [0, 1] ?_ ?_ ?_ rfl (by simp) ?_
  · simp [ren, rens, sg, sig, okIn, okIns, exK, leK, leF, leV, matK, objM, renO, roSame, lh, born, AObj.born, AObj.live, injOk, kindOf, rens_ints, okIns_ints, List.range, List.range.loop, mrg, mset]
  · simp [ren, rens, sg, sig, okIn, okIns, exK, leK, leF, leV, matK, objM, renO, roSame, lh, born, AObj.born, AObj.live, injOk, kindOf, rens_ints, okIns_ints, List.range, List.range.loop, mrg, mset]
  · simp [ren, rens, sg, sig, okIn, okIns, exK, leK, leF, leV, matK, objM, renO, roSame, lh, born, AObj.born, AObj.live, injOk, kindOf, rens_ints, okIns_ints, List.range, List.range.loop, mrg, mset]
  simp (maxSteps := 2000000) only [↓vP0, vQ0, vT0, simprocAttr]
  refine callK_det (c_r8Encode t dx dy ty kd w v w' v' p q hpl hql hbp hbq) [0, 1] ?_ ?_ ?_ rfl (by simp) ?_
  · simp [ren, rens, sg, sig, okIn, okIns, exK, leK, leF, leV, matK, objM, renO, roSame, lh, born, AObj.born, AObj.live, injOk, kindOf, rens_ints, okIns_ints, List.range, List.range.loop, mrg, mset]
  · simp [ren, rens, sg, sig, okIn, okIns, exK, leK, leF, leV, matK, objM, renO, roSame, lh, born, AObj.born, AObj.live, injOk, kindOf, rens_ints, okIns_ints, List.range, List.range.loop, mrg, mset]
  · simp [ren, rens, sg, sig, okIn, okIns, exK, leK, leF, leV, matK, objM, renO, roSame, lh, born, AObj.born, AObj.live, injOk, kindOf, rens_ints, okIns_ints, List.range, List.range.loop, mrg, mset]
  generalize reCode t dx dy ty kd w v p w' v' q = code at *
  simp (maxSteps := 2000000) only [↓vP0, vQ0, vT0, simprocAttr]
  refine callK_read (c_SameBytes code code (by omega) (by omega)) [5, 6] ?_ ?_ ?_ rfl ?_
  · simp [ren, rens, sg, sig, okIn, okIns, exK, leK, leF, leV, matK, objM, renO, roSame, lh, born, AObj.born, AObj.live, injOk, kindOf, rens_ints, okIns_ints, List.range, List.range.loop, mrg, mset]
  · simp [ren, rens, sg, sig, okIn, okIns, exK, leK, leF, leV, matK, objM, renO, roSame, lh, born, AObj.born, AObj.live, injOk, kindOf, rens_ints, okIns_ints, List.range, List.range.loop, mrg, mset]
  · simp [ren, rens, sg, sig, okIn, okIns, exK, leK, leF, leV, matK, objM, renO, roSame, lh, born, AObj.born, AObj.live, injOk, kindOf, rens_ints, okIns_ints, List.range, List.range.loop, mrg, mset]
  simp (maxSteps := 2000000) only [↓vP0, vQ0, vT0, simprocAttr, dT (show code = code from rfl)]
  refine callK_pure (c_Awake) rfl rfl ?_
  simp (maxSteps := 2000000) only [↓vP0, vQ0, vT0, simprocAttr]
  exact exit_keep (L1 := pix2L p q) ⟨rfl, rfl⟩ trivial (pix2_keep p q)

theorem c_RefineDecodes (t dx dy : Int) (hx : I64 dx) (hy : I64 dy) (ty : Bool) (kd w v w' v' : Int) (code q : List Int) (hpl : code.length ≤ big) (hql : q.length ≤ big) (hbp : ByOk code) (hbq : ByOk q) :
    LCall Try.prog 7 [optV t dx dy ty kd, .slice 0 0 code.length, .int .i64 w, .int .i64 v, bmV w' v' 1 q.length] (cqL code q) fun r L => r = .bool true ∧ L = cqL code q := by
  have hkeep := pix2_keep code q
  refine lcall_of_vc tyok Try.func7 rfl (by rfl) Try.results7 Try.ntmps7 ?_; intro C hD
  by_cases hg : 100000 < code.length
  · simp (maxSteps := 2000000) only [↓vP0, vQ0, vT0, simprocAttr, dT (show (100000 : Int) < code.length by omega)]
    refine callK_pure (c_Awake) rfl rfl ?_
    simp (maxSteps := 2000000) only [↓vP0, vQ0, vT0, simprocAttr]
    exact exit_keep (L1 := cqL code q) ⟨rfl, rfl⟩ trivial hkeep
  · simp (maxSteps := 2000000) only [↓vP0, vQ0, vT0, simprocAttr, dN (show ¬ (100000 : Int) < code.length by omega)]
    refine callK_det (c_p8Decode t dx dy hx hy ty kd code hbp (by omega) w v w' v' q hql hbq) [0, 1] ?_ ?_ ?_ rfl (by simp) ?_
    · simp [ren, rens, sg, sig, okIn, okIns, exK, leK, leF, leV, matK, objM, renO, roSame, lh, born, AObj.born, AObj.live, injOk, kindOf, rens_ints, okIns_ints, List.range, List.range.loop, mrg, mset]
    · simp [ren, rens, sg, sig, okIn, okIns, exK, leK, leF, leV, matK, objM, renO, roSame, lh, born, AObj.born, AObj.live, injOk, kindOf, rens_ints, okIns_ints, List.range, List.range.loop, mrg, mset]
    · simp [ren, rens, sg, sig, okIn, okIns, exK, leK, leF, leV, matK, objM, renO, roSame, lh, born, AObj.born, AObj.live, injOk, kindOf, rens_ints, okIns_ints, List.range, List.range.loop, mrg, mset]
    simp (maxSteps := 2000000) only [↓vP0, vQ0, vT0, simprocAttr]
    refine callK_det (c_r8Decode t dx dy ty kd code hbp (by omega) w v w' v' q hql hbq) [0, 1] ?_ ?_ ?_ rfl (by simp) ?_
    · simp [ren, rens, sg, sig, okIn, okIns, exK, leK, leF, leV, matK, objM, renO, roSame, lh, born, AObj.born, AObj.live, injOk, kindOf, rens_ints, okIns_ints, List.range, List.range.loop, mrg, mset]
    · simp [ren, rens, sg, sig, okIn, okIns, exK, leK, leF, leV, matK, objM, renO, roSame, lh, born, AObj.born, AObj.live, injOk, kindOf, rens_ints, okIns_ints, List.range, List.range.loop, mrg, mset]
    · simp [ren, rens, sg, sig, okIn, okIns, exK, leK, leF, leV, matK, objM, renO, roSame, lh, born, AObj.born, AObj.live, injOk, kindOf, rens_ints, okIns_ints, List.range, List.range.loop, mrg, mset]
    simp (maxSteps := 2000000) only [↓vP0, vQ0, vT0, simprocAttr]
    have hpl2 : (gP t dx dy ty kd 0 w v w' v' q (dec0 t kd code)).length ≤ 9223372036854775807 := gP_len hbp hbq
    generalize gP t dx dy ty kd 0 w v w' v' q (dec0 t kd code) = P at *
    generalize gW t dx dy ty kd 0 w v w' v' q (dec0 t kd code) = W at *
    generalize gV t dx dy ty kd 0 w v w' v' q (dec0 t kd code) = V at *
    refine callK_read (c_SameBitmap W V W V P P hpl2 hpl2) [4, 6] ?_ ?_ ?_ rfl ?_
    · simp [ren, rens, sg, sig, okIn, okIns, exK, leK, leF, leV, matK, objM, renO, roSame, lh, born, AObj.born, AObj.live, injOk, kindOf, rens_ints, okIns_ints, List.range, List.range.loop, mrg, mset]
    · simp [ren, rens, sg, sig, okIn, okIns, exK, leK, leF, leV, matK, objM, renO, roSame, lh, born, AObj.born, AObj.live, injOk, kindOf, rens_ints, okIns_ints, List.range, List.range.loop, mrg, mset]
    · simp [ren, rens, sg, sig, okIn, okIns, exK, leK, leF, leV, matK, objM, renO, roSame, lh, born, AObj.born, AObj.live, injOk, kindOf, rens_ints, okIns_ints, List.range, List.range.loop, mrg, mset]
    simp (maxSteps := 2000000) only [↓vP0, vQ0, vT0, simprocAttr, dT (show W = W ∧ V = V ∧ P = P from ⟨rfl, rfl, rfl⟩)]
    refine callK_pure (c_Awake) rfl rfl ?_
    simp (maxSteps := 2000000) only [↓vP0, vQ0, vT0, simprocAttr]
    exact exit_keep (L1 := cqL code q) ⟨rfl, rfl⟩ trivial hkeep

theorem c_RefineBack (t dx dy : Int) (hx : I64 dx) (hy : I64 dy) (ty : Bool) (kd w v w' v' : Int) (p q : List Int) (hpl : p.length ≤ big) (hql : q.length ≤ big) (hbp : ByOk p) (hbq : ByOk q) :
    LCall Try.prog 8 [optV t dx dy ty kd, bmV w v 0 p.length, bmV w' v' 1 q.length] (pix2L p q) fun r L => r = .bool true ∧ L = pix2L p q := by
  obtain ⟨hcl, hcb⟩ := reCode_len (t := t) (dx := dx) (dy := dy) (ty := ty) (kd := kd) (w := w) (v := v) (w' := w') (v' := v') hbp hbq
  have hback := re_back (t := t) (dx := dx) (dy := dy) (ty := ty) (kd := kd) (w := w) (v := v) (w' := w') (v' := v') hbp hbq
  have hnil : reErr t dx dy kd w v p w' v' q ≠ 0 → reCode t dx dy ty kd w v p w' v' q = [] := fun h => by rw [reCode, if_pos h]
  refine lcall_of_vc tyok Try.func8 rfl (by rfl) Try.results8 Try.ntmps8 ?_; intro C hD
  simp (maxSteps := 2000000) only [↓vP0, vQ0, vT0, simprocAttr]
  refine callK_det (c_p8Encode t dx dy hx hy ty kd w v w' v' p q hpl hql hbp hbq) [0, 1] ?_ ?_ ?_ rfl (by simp) ?_
  · simp [ren, rens, sg, sig, okIn, okIns, exK, leK, leF, leV, matK, objM, renO, roSame, lh, born, AObj.born, AObj.live, injOk, kindOf, rens_ints, okIns_ints, List.range, List.range.loop, mrg, mset]
  · simp [ren, rens, sg, sig, okIn, okIns, exK, leK, leF, leV, matK, objM, renO, roSame, lh, born, AObj.born, AObj.live, injOk, kindOf, rens_ints, okIns_ints, List.range, List.range.loop, mrg, mset]
  · simp [ren, rens, sg, sig, okIn, okIns, exK, leK, leF, leV, matK, objM, renO, roSame, lh, born, AObj.born, AObj.live, injOk, kindOf, rens_ints, okIns_ints, List.range, List.range.loop, mrg, mset]
  generalize reCode t dx dy ty kd w v p w' v' q = code at *
  generalize reErr t dx dy kd w v p w' v' q = er at *
  by_cases h0 : er = 0
  · obtain ⟨b1, b2, b3, b4⟩ := hback h0
    have c2 := c_p8Decode t dx dy hx hy ty kd code hcb (by omega) w v w' v' q hql hbq
    rw [b1, b2, b3, b4] at c2
    have e0 : (er != 0) = false := by rw [h0]; rfl
    simp (maxSteps := 2000000) only [↓vP0, vQ0, vT0, simprocAttr, e0]
    refine callK_det (c2) [5, 1] ?_ ?_ ?_ rfl (by simp) ?_
    · simp [ren, rens, sg, sig, okIn, okIns, exK, leK, leF, leV, matK, objM, renO, roSame, lh, born, AObj.born, AObj.live, injOk, kindOf, rens_ints, okIns_ints, List.range, List.range.loop, mrg, mset]
    · simp [ren, rens, sg, sig, okIn, okIns, exK, leK, leF, leV, matK, objM, renO, roSame, lh, born, AObj.born, AObj.live, injOk, kindOf, rens_ints, okIns_ints, List.range, List.range.loop, mrg, mset]
    · simp [ren, rens, sg, sig, okIn, okIns, exK, leK, leF, leV, matK, objM, renO, roSame, lh, born, AObj.born, AObj.live, injOk, kindOf, rens_ints, okIns_ints, List.range, List.range.loop, mrg, mset]
    simp (maxSteps := 2000000) only [↓vP0, vQ0, vT0, simprocAttr]
    refine callK_read (c_SameBitmap w v w v p p hpl hpl) [6, 0] ?_ ?_ ?_ rfl ?_
    · simp [ren, rens, sg, sig, okIn, okIns, exK, leK, leF, leV, matK, objM, renO, roSame, lh, born, AObj.born, AObj.live, injOk, kindOf, rens_ints, okIns_ints, List.range, List.range.loop, mrg, mset]
    · simp [ren, rens, sg, sig, okIn, okIns, exK, leK, leF, leV, matK, objM, renO, roSame, lh, born, AObj.born, AObj.live, injOk, kindOf, rens_ints, okIns_ints, List.range, List.range.loop, mrg, mset]
    · simp [ren, rens, sg, sig, okIn, okIns, exK, leK, leF, leV, matK, objM, renO, roSame, lh, born, AObj.born, AObj.live, injOk, kindOf, rens_ints, okIns_ints, List.range, List.range.loop, mrg, mset]
    simp (maxSteps := 2000000) only [↓vP0, vQ0, vT0, simprocAttr, dT (show w = w ∧ v = v ∧ p = p from ⟨rfl, rfl, rfl⟩)]
    refine callK_pure (c_Awake) rfl rfl ?_
    simp (maxSteps := 2000000) only [↓vP0, vQ0, vT0, simprocAttr]
    exact exit_keep (L1 := pix2L p q) ⟨rfl, rfl⟩ trivial (pix2_keep p q)
  · have hc := hnil h0
    subst hc
    have e0 : (er != 0) = true := by simpa only [bne_iff_ne] using h0
    simp (maxSteps := 2000000) only [↓vP0, vQ0, vT0, simprocAttr, e0]
    refine callK_pure (c_Awake) rfl rfl ?_
    simp (maxSteps := 2000000) only [↓vP0, vQ0, vT0, simprocAttr]
    exact exit_keep (L1 := pix2L p q) ⟨rfl, rfl⟩ trivial (pix2_keep p q)
end Go.Proofs.Ytbfefpkhalegmaa

set_option linter.unusedVariables false
set_option linter.unusedSimpArgs false
namespace Go.Proofs.Ytbfefpkhalegmaa
open Go Go.RowKit Go.ChangeShapes Go.WideShapes
set_option maxRecDepth 100000

def partsOne (P : Program) (fs : Array Field) : Bool := (List.range fs.size).all fun i => match fs[i]? with | some f => f.offset == i && P.cellsOf f.type == 1 | none => false
theorem open_parts {H : Type} {enc : TypeId × Value → H} {P : Program} {W : World} {base : Nat} {spare : Nat → Bool} {held : Bool} {fuel : Nat} {t : TypeId} {cs : List Value} {x : DataW H × List MemPlace} {fs : Array Field}
    (hs : P.underlying t = some (.struct fs)) (hone : partsOne P fs = true) (h : DataW.trod enc P W base spare held fuel t cs = some x) :
    cs.length = P.cellsOf t ∧ ∀ (j : Nat) (f : Field) (c : Value), fs[j]? = some f → cs[j]? = some c → ∃ n y, DataW.trod enc P W base spare held n f.type [c] = some y := by
  obtain ⟨xs, n, _, _, hlen, hxs, hf⟩ := DataW.trod_struct hs h
  refine ⟨hlen, fun j f c hj hc => ?_⟩
  have hjl := (Array.getElem?_eq_some_iff.1 hj).1
  have h1 := List.all_eq_true.1 hone j (List.mem_range.2 hjl)
  rw [hj] at h1
  simp only [Bool.and_eq_true, beq_iff_eq] at h1
  have h2 := hf j f hj
  rw [h1.1, h1.2] at h2
  have hcl := (List.getElem?_eq_some_iff.1 hc)
  rw [List.drop_eq_getElem_cons hcl.1, hcl.2] at h2
  have hx : xs[j]? = some (xs[j]'(by omega)) := List.getElem?_eq_getElem (by omega)
  exact ⟨n, _, h2.trans hx⟩
theorem parts_agg {P : Program} {W : World} {r : Reach} {b0 : Nat} {t : TypeId} {fs : Array Field} {v : Value} (hs : P.underlying t = some (.struct fs)) (hv : Value.okWide P W r b0 t v) : ∃ l : List Value, v = .agg l.toArray ∧ l.length = P.cellsOf t ∧ v.cells.toList = l := by
  obtain ⟨cs, rfl, hsz⟩ := okWide_struct hs hv
  exact ⟨cs.toList, by simp, by simpa using hsz, by simp [Value.cells]⟩
theorem row_one {k : IntKind} {W : World} {H : Type} {enc : TypeId × Value → H} {P : Program} {fuel : Nat} {t e : TypeId} {c : Value} {x : DataW H × List MemPlace} (ht : P.underlying t = some (.slice e)) (he : P.underlying e = some (.int k)) (hc : P.cellsOf e = 1)
    (h : DataW.trod enc P W 0 (fun _ => true) true fuel t [c] = some x) : ∃ a len cap zs, c = .slice a len cap ∧ IsRow k W a len cap zs := by
  rcases open_ints ht he hc h with ⟨hcs, _⟩ | ⟨x, l, c', zs, hcs, _, hl, hm, hz, _, hcell, hwz⟩
  · simp at hcs; subst hcs
    exact ⟨none, 0, 0, [], rfl, .inl ⟨rfl, rfl, rfl, rfl⟩⟩
  · simp at hcs; subst hcs
    exact ⟨some x, l, c', zs, rfl, .inr ⟨_, rfl, hl, hm, by simpa using hz, hcell, hwz⟩⟩

theorem row_refine {W : World} {H : Type} {enc : TypeId × Value → H} {r : Reach} {b0 : Nat} {v : Value} {d : DataW H} {ps : List MemPlace} (hv : Value.okWide Try.prog W r b0 43 v)
    (h : DataW.Trod enc Try.prog W 0 (fun _ => true) true 43 v d ps) :
    ∃ (t dx dy : Int) (ty : Bool) (kd : Int), v = .agg #[.int .i64 t, .int .i64 dx, .int .i64 dy, .bool ty, .int .i64 kd] ∧ I64 t ∧ I64 dx ∧ I64 dy ∧ I64 kd := by
  obtain ⟨l, rfl, hl, hcl⟩ := parts_agg Try.underlying43 hv
  obtain ⟨fuel, hf⟩ := h
  obtain ⟨_, hp⟩ := open_parts Try.underlying43 (by kernel_rfl) hf
  rw [hcl] at hp
  have hl5 : l.length = 5 := hl.trans (by kernel_rfl)
  match l, hl5 with
  | [c0, c1, c2, c3, c4], _ =>
    obtain ⟨_, _, h0⟩ := hp 0 _ c0 rfl rfl
    obtain ⟨_, _, h1⟩ := hp 1 _ c1 rfl rfl
    obtain ⟨_, _, h2⟩ := hp 2 _ c2 rfl rfl
    obtain ⟨_, _, h3⟩ := hp 3 _ c3 rfl rfl
    obtain ⟨_, _, h4⟩ := hp 4 _ c4 rfl rfl
    obtain ⟨n0, e0, _, w0⟩ := DataW.trod_int Try.underlying3 h0
    obtain ⟨n1, e1, _, w1⟩ := DataW.trod_int Try.underlying3 h1
    obtain ⟨n2, e2, _, w2⟩ := DataW.trod_int Try.underlying3 h2
    obtain ⟨n3, e3, _⟩ := DataW.trod_bool Try.underlying4 h3
    obtain ⟨n4, e4, _, w4⟩ := DataW.trod_int Try.underlying3 h4
    simp at e0 e1 e2 e3 e4
    subst e0 e1 e2 e3 e4
    exact ⟨n0, n1, n2, n3, n4, rfl, wf_i64 w0, wf_i64 w1, wf_i64 w2, wf_i64 w4⟩
theorem row_bitmap {W : World} {H : Type} {enc : TypeId × Value → H} {r : Reach} {b0 : Nat} {v : Value} {d : DataW H} {ps : List MemPlace} (hv : Value.okWide Try.prog W r b0 48 v)
    (h : DataW.Trod enc Try.prog W 0 (fun _ => true) true 48 v d ps) :
    ∃ (wd ht : Int) (a : Option Addr) (len cap : Nat) (zs : List Int), v = .agg #[.int .i64 wd, .int .i64 ht, .slice a len cap] ∧ IsRow .u8 W a len cap zs ∧ I64 wd ∧ I64 ht := by
  obtain ⟨l, rfl, hl, hcl⟩ := parts_agg Try.underlying48 hv
  obtain ⟨fuel, hf⟩ := h
  obtain ⟨_, hp⟩ := open_parts Try.underlying48 (by kernel_rfl) hf
  rw [hcl] at hp
  have hl3 : l.length = 3 := hl.trans (by kernel_rfl)
  match l, hl3 with
  | [c0, c1, c2], _ =>
    obtain ⟨_, _, h0⟩ := hp 0 _ c0 rfl rfl
    obtain ⟨_, _, h1⟩ := hp 1 _ c1 rfl rfl
    obtain ⟨_, _, h2⟩ := hp 2 _ c2 rfl rfl
    obtain ⟨n0, e0, _, w0⟩ := DataW.trod_int Try.underlying3 h0
    obtain ⟨n1, e1, _, w1⟩ := DataW.trod_int Try.underlying3 h1
    obtain ⟨a, len, cap, zs, e2, hr⟩ := row_one Try.underlying24 Try.underlying5 (by kernel_rfl) h2
    simp at e0 e1
    subst e0 e1 e2
    exact ⟨n0, n1, a, len, cap, zs, rfl, hr, wf_i64 w0, wf_i64 w1⟩
end Go.Proofs.Ytbfefpkhalegmaa
