/- Contract: Get of a region, the reference's (printed by tools/gen19.py). -/
import Derived.Test.YtbfefpkhalegmaaF4
import Derived.KernelRfl
import Derived.Test.YtbfefpkhalegmaaF2

set_option linter.unusedVariables false
set_option linter.unusedSimpArgs false
namespace Go.Proofs.Ytbfefpkhalegmaa
open Go
set_option maxHeartbeats 4000000
set_option maxRecDepth 20000

abbrev g8L (t dx dy : Int) (ty : Bool) (kd w v w' v' : Int) (q : List Int) (D : Dec) (u : List Int) (n : Nat) : List AObj :=
  [.own (rDecC D 1 2) 158, .own (ints .i64 D.st) 3, .ro (ints .u8 D.code) 5, .ro (ints .u8 q) 5, optC t dx dy ty kd, bmC w' v' 3 q.length, .own [.int .i64 0, .int .i64 0, .nilslice] 48,
    .own (ints .u8 u) 5, bmC w v 7 n]
theorem c_r8Get (d : Dec) (hd : d.Ok) (hl : d.st.length ≤ 8192) (hcl : d.code.length ≤ 1099511627776) (base : Int) (t dx dy : Int) (ty : Bool) (kd : Int) (w v w' v' : Int) (q : List Int) (hql : q.length ≤ 9223372036854775807) (hby : ByOk q) :
    LCall Try.prog 51 [.ptr 0 0, .int .i64 base, optV t dx dy ty kd, .int .i64 w, .int .i64 v, bmV w' v' 3 q.length] (rDecL d ++ [.ro (ints .u8 q) 5]) fun r L =>
      r = .tup [bmV (gW t dx dy ty kd base w v w' v' q d) (gV t dx dy ty kd base w v w' v' q d) 4 (gP t dx dy ty kd base w v w' v' q d).length, .int .i64 (gE t dx dy ty kd base w v w' v' q d)] ∧
      L = rDecL (gD t dx dy ty kd base w v w' v' q d) ++ [.ro (ints .u8 q) 5, .own (ints .u8 (gP t dx dy ty kd base w v w' v' q d)) 5] := by
  have fail : ∀ a, gAsk t dx dy kd base w v w' v' q d = a → a ≠ 0 → gE t dx dy ty kd base w v w' v' q d = a ∧ gP t dx dy ty kd base w v w' v' q d = [] ∧ gW t dx dy ty kd base w v w' v' q d = 0 ∧ gV t dx dy ty kd base w v w' v' q d = 0 ∧ gD t dx dy ty kd base w v w' v' q d = d := by
    intro a h h0
    have e : gE t dx dy ty kd base w v w' v' q d = a := by rw [gE, if_pos (by rw [h]; exact h0), h]
    exact ⟨e, by rw [gP, if_pos (by rw [e]; exact h0)], by rw [gW, if_pos (by rw [e]; exact h0)], by rw [gV, if_pos (by rw [e]; exact h0)], by rw [gD, if_pos (by rw [h]; exact h0)]⟩
  refine lcall_of_vcB tyok Try.func51 rfl (by rfl) Try.results51 Try.ntmps51 ?_; intro C hD
  simp only [rDecL, rDecC] at hD ⊢
  simp (maxSteps := 2000000) only [↓vP0, vQ0, vT0, simprocAttr]
  refine drawK_of tyok rfl (usL [[3, 6], [], [], [], [], [], [], [], [], [], [], [], [3, 6]]) (fun i => .below 7) (by kernel_rfl) ?_
  simp (maxSteps := 2000000) only [↓vP0, vQ0, vT0, simprocAttr]
  refine callK_pure (c_rIsSize w v) rfl rfl ?_
  by_cases hask : gAsk t dx dy kd base w v w' v' q d = 0
  case neg =>
    obtain ⟨f1, f2, f3, f4, f5⟩ := fail _ rfl hask
    rw [f1, f2, f3, f4, f5]
    rw [gAsk] at hask ⊢
    have e0 : (askErr t dx dy kd (sizeB w v && bmB w' v' q) base d.st.length != 0) = true := by simpa only [bne_iff_ne] using hask
    cases hsb : sizeB w v with
    | false =>
      rw [hsb, Bool.false_and] at e0
      simp (maxSteps := 2000000) only [↓vP0, vQ0, vT0, simprocAttr]
      refine callK_read (c_asked t dx dy ty kd false base d.kd d.st hl) [1] ?_ ?_ ?_ rfl ?_
      · simp [ren, rens, sg, sig, okIn, okIns, exK, leK, leF, leV, matK, objM, renO, roSame, lh, born, AObj.born, AObj.live, injOk, kindOf, rens_ints, okIns_ints, List.range, List.range.loop, mrg, mset]
      · simp [ren, rens, sg, sig, okIn, okIns, exK, leK, leF, leV, matK, objM, renO, roSame, lh, born, AObj.born, AObj.live, injOk, kindOf, rens_ints, okIns_ints, List.range, List.range.loop, mrg, mset]
      · simp [ren, rens, sg, sig, okIn, okIns, exK, leK, leF, leV, matK, objM, renO, roSame, lh, born, AObj.born, AObj.live, injOk, kindOf, rens_ints, okIns_ints, List.range, List.range.loop, mrg, mset]
      simp (maxSteps := 2000000) only [↓vP0, vQ0, vT0, simprocAttr, e0]
      refine exitB_of [(5, .fr 0 [0, 2])] ?_
      simp (maxSteps := 2000000) only [↓vP0, vQ0, vT0, simprocAttr]
      refine exit_of [7] (.tup [bmV 0 0 4 0, .int .i64 (askErr t dx dy kd false base d.st.length)]) (rDecL d ++ [.ro (ints .u8 q) 5, .own (ints .u8 []) 5]) ⟨rfl, rfl⟩ ?_ ?_ rfl ?_ ?_
      all_goals simp [ren, rens, sg, sig, okIn, okIns, exK, leK, leF, leV, matK, objM, renO, roSame, lh, born, AObj.born, AObj.live, injOk, kindOf, rens_ints, okIns_ints, List.range, List.range.loop, mrg, mset, rDecL, rDecC, ints_nil]
    | true =>
      rw [hsb, Bool.true_and] at e0
      simp (maxSteps := 2000000) only [↓vP0, vQ0, vT0, simprocAttr]
      refine callK_read (c_rIsBitmap w' v' q hql) [3] ?_ ?_ ?_ rfl ?_
      · simp [ren, rens, sg, sig, okIn, okIns, exK, leK, leF, leV, matK, objM, renO, roSame, lh, born, AObj.born, AObj.live, injOk, kindOf, rens_ints, okIns_ints, List.range, List.range.loop, mrg, mset]
      · simp [ren, rens, sg, sig, okIn, okIns, exK, leK, leF, leV, matK, objM, renO, roSame, lh, born, AObj.born, AObj.live, injOk, kindOf, rens_ints, okIns_ints, List.range, List.range.loop, mrg, mset]
      · simp [ren, rens, sg, sig, okIn, okIns, exK, leK, leF, leV, matK, objM, renO, roSame, lh, born, AObj.born, AObj.live, injOk, kindOf, rens_ints, okIns_ints, List.range, List.range.loop, mrg, mset]
      simp (maxSteps := 2000000) only [↓vP0, vQ0, vT0, simprocAttr]
      refine callK_read (c_asked t dx dy ty kd (bmB w' v' q) base d.kd d.st hl) [1] ?_ ?_ ?_ rfl ?_
      · simp [ren, rens, sg, sig, okIn, okIns, exK, leK, leF, leV, matK, objM, renO, roSame, lh, born, AObj.born, AObj.live, injOk, kindOf, rens_ints, okIns_ints, List.range, List.range.loop, mrg, mset]
      · simp [ren, rens, sg, sig, okIn, okIns, exK, leK, leF, leV, matK, objM, renO, roSame, lh, born, AObj.born, AObj.live, injOk, kindOf, rens_ints, okIns_ints, List.range, List.range.loop, mrg, mset]
      · simp [ren, rens, sg, sig, okIn, okIns, exK, leK, leF, leV, matK, objM, renO, roSame, lh, born, AObj.born, AObj.live, injOk, kindOf, rens_ints, okIns_ints, List.range, List.range.loop, mrg, mset]
      simp (maxSteps := 2000000) only [↓vP0, vQ0, vT0, simprocAttr, e0]
      refine exitB_of [(5, .fr 0 [0, 2])] ?_
      simp (maxSteps := 2000000) only [↓vP0, vQ0, vT0, simprocAttr]
      refine exit_of [7] (.tup [bmV 0 0 4 0, .int .i64 (askErr t dx dy kd (bmB w' v' q) base d.st.length)]) (rDecL d ++ [.ro (ints .u8 q) 5, .own (ints .u8 []) 5]) ⟨rfl, rfl⟩ ?_ ?_ rfl ?_ ?_
      all_goals simp [ren, rens, sg, sig, okIn, okIns, exK, leK, leF, leV, matK, objM, renO, roSame, lh, born, AObj.born, AObj.live, injOk, kindOf, rens_ints, okIns_ints, List.range, List.range.loop, mrg, mset, rDecL, rDecC, ints_nil]
  case pos =>
    have hask' := hask
    rw [gAsk, askErr] at hask'
    have ho : OptOk t dx dy kd := by
      by_cases h : OptOk t dx dy kd
      · exact h
      · rw [if_pos h] at hask'; omega
    rw [if_neg (not_not_intro ho)] at hask'
    have hsr : (sizeB w v && bmB w' v' q) = true := by
      cases h : (sizeB w v && bmB w' v' q) with
      | true => rfl
      | false => rw [h, if_pos rfl] at hask'; omega
    have hfit : ¬ (base < 0 ∨ (d.st.length : Int) - sizeN t < base) := by
      intro h
      rw [hsr, if_neg (by simp), if_pos h] at hask'; omega
    rw [Bool.and_eq_true] at hsr
    obtain ⟨hsb, hr1⟩ := hsr
    have hsz := (sizeB_iff w v).1 hsb
    obtain ⟨hr, hq⟩ := bmB_ok hby hr1
    obtain ⟨s0, s1, s2, s3, s4⟩ := id hsz
    have hm := area_bd s0 s1 s2 s3
    obtain ⟨n, hn⟩ : ∃ n : Nat, w * v = (n : Int) := ⟨_, (Int.toNat_of_nonneg (by omega)).symm⟩
    obtain ⟨b, rfl⟩ : ∃ b : Nat, base = (b : Int) := ⟨_, (Int.toNat_of_nonneg (by omega)).symm⟩
    have hs0 : sizeN t = 513 ∨ sizeN t = 129 := by unfold sizeN; split <;> simp
    have hb0 : b + (sizeN t).toNat ≤ d.st.length := by omega
    have hae : askErr t dx dy kd true b d.st.length = 0 := by rw [gAsk, hsb, hr1] at hask; exact hask
    obtain ⟨g1, g2, g3, g4, g5⟩ : (gE t dx dy ty kd b w v w' v' q d = (gRun t dx dy ty b w v w' v' q d).err) ∧ (gP t dx dy ty kd b w v w' v' q d = if (gRun t dx dy ty b w v w' v' q d).err ≠ 0 then [] else (gRun t dx dy ty b w v w' v' q d).p) ∧
        (gW t dx dy ty kd b w v w' v' q d = if (gRun t dx dy ty b w v w' v' q d).err ≠ 0 then 0 else w) ∧ (gV t dx dy ty kd b w v w' v' q d = if (gRun t dx dy ty b w v w' v' q d).err ≠ 0 then 0 else v) ∧ gD t dx dy ty kd b w v w' v' q d = (gRun t dx dy ty b w v w' v' q d).d := by
      simp [gE, gP, gW, gV, gD, hask]
    rw [g1, g2, g3, g4, g5]
    generalize hRG : gRun t dx dy ty b w v w' v' q d = RG
    have hRG' : regRun t dx dy b w v w' v' q ty v.toNat 0 d (zeros n) = RG := by rw [← hRG]; unfold gRun regGet; rw [hn]; rfl
    have ew : IntKind.i64.wrap (w * v) = (n : Int) := by rw [hn]; simp (disch := omega) only [wr64, wru64, wru8, tdv, tmd, fdv]
    have hzl := zeros_len n
    have hI : RInv d (w * v).toNat d (zeros n) := ⟨⟨hd, rfl, rfl, rfl⟩, fun z hz => by simp [zeros] at hz; omega, by rw [hn]; simp [zeros]⟩
    rw [hsb]
    simp (maxSteps := 2000000) only [↓vP0, vQ0, vT0, simprocAttr]
    refine callK_read (c_rIsBitmap w' v' q hql) [3] ?_ ?_ ?_ rfl ?_
    · simp [ren, rens, sg, sig, okIn, okIns, exK, leK, leF, leV, matK, objM, renO, roSame, lh, born, AObj.born, AObj.live, injOk, kindOf, rens_ints, okIns_ints, List.range, List.range.loop, mrg, mset]
    · simp [ren, rens, sg, sig, okIn, okIns, exK, leK, leF, leV, matK, objM, renO, roSame, lh, born, AObj.born, AObj.live, injOk, kindOf, rens_ints, okIns_ints, List.range, List.range.loop, mrg, mset]
    · simp [ren, rens, sg, sig, okIn, okIns, exK, leK, leF, leV, matK, objM, renO, roSame, lh, born, AObj.born, AObj.live, injOk, kindOf, rens_ints, okIns_ints, List.range, List.range.loop, mrg, mset]
    rw [hr1]
    simp (maxSteps := 2000000) only [↓vP0, vQ0, vT0, simprocAttr]
    refine callK_read (c_asked t dx dy ty kd true b d.kd d.st hl) [1] ?_ ?_ ?_ rfl ?_
    · simp [ren, rens, sg, sig, okIn, okIns, exK, leK, leF, leV, matK, objM, renO, roSame, lh, born, AObj.born, AObj.live, injOk, kindOf, rens_ints, okIns_ints, List.range, List.range.loop, mrg, mset]
    · simp [ren, rens, sg, sig, okIn, okIns, exK, leK, leF, leV, matK, objM, renO, roSame, lh, born, AObj.born, AObj.live, injOk, kindOf, rens_ints, okIns_ints, List.range, List.range.loop, mrg, mset]
    · simp [ren, rens, sg, sig, okIn, okIns, exK, leK, leF, leV, matK, objM, renO, roSame, lh, born, AObj.born, AObj.live, injOk, kindOf, rens_ints, okIns_ints, List.range, List.range.loop, mrg, mset]
    rw [hae]
    simp (maxSteps := 2000000) only [↓vP0, vQ0, vT0, simprocAttr]
    refine callK_pure (c_r8size t) rfl rfl ?_
    rw [show (if t = 0 then 513 else 129 : Int) = sizeN t from rfl]
    simp (maxSteps := 2000000) only [↓vP0, vQ0, vT0, simprocAttr, ew]
    refine chk_intro (by omega) ?_
    simp (maxSteps := 2000000) only [↓vP0, vQ0, vT0, simprocAttr]
    simp (disch := omega) only [wr64, wru64, wru8, tdv, tmd, fdv]
    obtain ⟨l, hl1⟩ : ∃ l : Nat, (b : Int) + sizeN t - 1 = (l : Int) := ⟨_, (Int.toNat_of_nonneg (by omega)).symm⟩
    have hll : b + (sizeN t - 1).toNat = l := by omega
    rw [hl1]
    refine loopK_of tyok hD (α := Nat × Dec × List Int) (fun s => (s.1 : Int) ≤ v ∧ RInv d (w * v).toNat s.2.1 s.2.2 ∧ regRun t dx dy b w v w' v' q ty (v.toNat - s.1) s.1 s.2.1 s.2.2 = RG) (fun s => v.toNat - s.1)
      (fun s => [.ptr 0 0, .int .i64 b, .junk, .int .i64 w, .int .i64 v, .junk, .junk, .junk, .ptr 4 0, .junk, .junk, .ptr 5 0, .ptr 6 0, .junk, .junk, .int .i64 l, .ptr 8 0, .int .i64 s.1, .junk, .junk, .junk, .junk, .junk, .junk, .junk, .junk, .junk, .junk, .junk, .junk, .junk, .junk, .junk, .junk, .junk, .junk, .junk, .junk, .junk, .junk, .junk, .junk, .junk, .junk, .junk, .junk, .junk, .junk, .junk, .junk, .junk, .junk, .junk, .junk, .junk, .junk, .junk, .junk, .junk, .junk, .junk, .junk, .junk, .junk, .junk, .junk, .junk, .junk, .junk, .junk, .junk, .junk, .junk, .junk, .junk, .junk, .junk, .junk, .junk, .junk, .junk, .junk, .junk, .junk, .junk, .junk, .junk, .junk, .junk, .junk, .junk, .junk, .junk, .junk, .junk, .junk, .junk, .junk, .junk, .junk, .junk, .junk, .junk, .junk, .junk, .junk, .junk, .junk, .junk, .junk, .junk, .junk, .junk, .junk, .junk, .junk, .junk, .junk, .junk, .junk, .junk, .junk, .junk, .junk, .junk, .junk])
      (fun s => g8L t dx dy ty kd w v w' v' q s.2.1 s.2.2 n) (0, d, zeros n) ⟨by simp; omega, hI, by simpa using hRG'⟩ ?_ ?_
    · (refine ⟨by simp [leF, leV] <;> rfl, ⟨_, by first | rfl | exact (List.append_nil _).symm⟩, by simp, by simp [okIns, okIn, okIns_ints, rDecC_okIns, rDecC, zeros], by simp [AObj.born, okIns, okIn, AObj.cells, okIns_ints, rDecC_okIns, rDecC, zeros]⟩)
    rintro ⟨y, D, u⟩ ⟨hy, hE, hrun⟩
    simp only at hy hE hrun
    have hcd : D.code = d.code := hE.1.2.2.2
    simp only [g8L]
    simp (maxSteps := 2000000) only [↓vP0, vQ0, vT0, simprocAttr]
    (with_reducible first | refine condK_dec (fun h => ?_) (fun h => ?_) | refine condK_beq (fun h => ?_) (fun h => ?_) | refine condK_bne (fun h => ?_) (fun h => ?_) | refine condK_intro (fun h => ?_) (fun h => ?_))
    · have hys : Small y := ⟨by omega, by omega⟩
      have hinv := rowAll_inv (dx := dx) (dy := dy) (w := w) (v := v) (w' := w') (v' := v') ho.1 hq hb0 ty y D u hE
      obtain ⟨k, hk⟩ : ∃ k, v.toNat - y = k + 1 := ⟨v.toNat - y - 1, by omega⟩
      rw [hk, regRun] at hrun
      generalize hRA : rowAll t dx dy b w v w' v' q ty y D u = RA at hrun hinv
      have hRc : RA.d.code = d.code := hinv.1.2.2.2
      cases ty with
      | false =>
        have hRA' : rowRun t dx dy b w v w' v' q false y w.toNat 0 D u = RA := by rw [← hRA]; rfl
        simp (maxSteps := 2000000) only [↓vP0, vQ0, vT0, simprocAttr]
        refine loopK_of tyok hD (α := Nat × Dec × List Int) (fun s => (s.1 : Int) ≤ w ∧ RInv d (w * v).toNat s.2.1 s.2.2 ∧ rowRun t dx dy b w v w' v' q (false) y (w.toNat - s.1) s.1 s.2.1 s.2.2 = RA) (fun s => w.toNat - s.1)
          (fun s => [.ptr 0 0, .int .i64 b, .junk, .int .i64 w, .int .i64 v, .junk, .junk, .junk, .ptr 4 0, .junk, .junk, .ptr 5 0, .ptr 6 0, .junk, .junk, .int .i64 l, .ptr 8 0, .int .i64 y, .int .i64 (0), .junk, .junk, .int .i64 s.1, .junk, .junk, .junk, .junk, .junk, .junk, .junk, .junk, .junk, .junk, .junk, .junk, .junk, .junk, .junk, .junk, .junk, .junk, .junk, .junk, .junk, .junk, .junk, .junk, .junk, .junk, .junk, .junk, .junk, .junk, .junk, .junk, .junk, .junk, .junk, .junk, .junk, .junk, .junk, .junk, .junk, .junk, .junk, .junk, .junk, .junk, .junk, .junk, .junk, .junk, .junk, .junk, .junk, .junk, .junk, .junk, .junk, .junk, .junk, .junk, .junk, .junk, .junk, .junk, .junk, .junk, .junk, .junk, .junk, .junk, .junk, .junk, .junk, .junk, .junk, .junk, .junk, .junk, .junk, .junk, .junk, .junk, .junk, .junk, .junk, .junk, .junk, .junk, .junk, .junk, .junk, .junk, .junk, .junk, .junk, .junk, .junk, .junk, .junk, .junk, .junk, .junk, .junk, .junk])
          (fun s => g8L t dx dy false kd w v w' v' q s.2.1 s.2.2 n) (0, D, u) ⟨by simp; omega, hE, by simpa using hRA'⟩ ?_ ?_
        · simp only [g8L]
          (refine ⟨by simp [leF, leV] <;> rfl, ⟨_, by first | rfl | exact (List.append_nil _).symm⟩, by simp, by simp [okIns, okIn, okIns_ints, rDecC_okIns], by simp [AObj.born, okIns, okIn, AObj.cells, okIns_ints, rDecC_okIns]⟩)
        rintro ⟨x, E, z⟩ ⟨hx, hF, hrow⟩
        simp only at hx hF hrow
        obtain ⟨hO, hu, hul⟩ := id hF
        have hEc : E.code = d.code := hO.2.2.2
        have hub : BmOk w v z := ⟨hsz, by omega⟩
        have hzn : n = z.length := by omega
        simp only [g8L]
        simp (maxSteps := 2000000) only [↓vP0, vQ0, vT0, simprocAttr]
        (with_reducible first | refine condK_dec (fun h => ?_) (fun h => ?_) | refine condK_beq (fun h => ?_) (fun h => ?_) | refine condK_bne (fun h => ?_) (fun h => ?_) | refine condK_intro (fun h => ?_) (fun h => ?_))
        · have hxs : Small (x : Int) := ⟨by omega, by omega⟩
          obtain ⟨k', hk'⟩ : ∃ k, w.toNat - x = k + 1 := ⟨w.toNat - x - 1, by omega⟩
          rw [hk'] at hrow
          have hbd := at_bd (w := w) (h := v) (x := x) (y := y) (by omega) (by omega) (by omega) (by omega)
          have e1 : IntKind.i64.wrap ((y : Int) * w) = (y : Int) * w := by simp (disch := omega) only [wr64, wru64, wru8, tdv, tmd, fdv]
          have e2 : IntKind.i64.wrap ((y : Int) * w + x) = (y : Int) * w + x := by simp (disch := omega) only [wr64, wru64, wru8, tdv, tmd, fdv]
          have hix : (ixP w y x : Int) = (y : Int) * w + x := ixP_eq (by omega) y x
          have hcl2 : cxP t dx dy b w v w' v' q z y x < d.st.length := by have := cx_lt (t := t) (dx := dx) (dy := dy) (base := b) (w := w) (v := v) (w' := w') (v' := v') ho.1 hu hq y x; omega
          obtain ⟨cb0, cb1⟩ := ctx_bd (w := w) (v := v) (w' := w') (v' := v') hu hq t dx dy x y ho.1
          obtain ⟨c, hc⟩ : ∃ c : Nat, ctxOf t dx dy w v z w' v' q x y = (c : Int) := ⟨_, (Int.toNat_of_nonneg cb0).symm⟩
          have hcc : cxP t dx dy b w v w' v' q z y x = b + c := by unfold cxP; rw [hc]; rfl
          simp (maxSteps := 2000000) only [↓vP0, vQ0, vT0, simprocAttr, e1, e2]
          refine callK_read (c_rAlike t dx dy false kd ho.2.2 w' v' q hr x y hxs hys) [3] ?_ ?_ ?_ rfl ?_
          · simp [ren, rens, sg, sig, okIn, okIns, exK, leK, leF, leV, matK, objM, renO, roSame, lh, born, AObj.born, AObj.live, injOk, kindOf, rens_ints, okIns_ints, List.range, List.range.loop, mrg, mset]
          · simp [ren, rens, sg, sig, okIn, okIns, exK, leK, leF, leV, matK, objM, renO, roSame, lh, born, AObj.born, AObj.live, injOk, kindOf, rens_ints, okIns_ints, List.range, List.range.loop, mrg, mset]
          · simp [ren, rens, sg, sig, okIn, okIns, exK, leK, leF, leV, matK, objM, renO, roSame, lh, born, AObj.born, AObj.live, injOk, kindOf, rens_ints, okIns_ints, List.range, List.range.loop, mrg, mset]
          simp (maxSteps := 2000000) only [↓vP0, vQ0, vT0, simprocAttr]
          rw [hzn]
          refine callK_read (c_rContext t ho.1 dx dy false kd ho.2.2 w v w' v' z q hub hr hu hq x y hxs hys) [7, 3] ?_ ?_ ?_ rfl ?_
          · simp [ren, rens, sg, sig, okIn, okIns, exK, leK, leF, leV, matK, objM, renO, roSame, lh, born, AObj.born, AObj.live, injOk, kindOf, rens_ints, okIns_ints, List.range, List.range.loop, mrg, mset]
          · simp [ren, rens, sg, sig, okIn, okIns, exK, leK, leF, leV, matK, objM, renO, roSame, lh, born, AObj.born, AObj.live, injOk, kindOf, rens_ints, okIns_ints, List.range, List.range.loop, mrg, mset]
          · simp [ren, rens, sg, sig, okIn, okIns, exK, leK, leF, leV, matK, objM, renO, roSame, lh, born, AObj.born, AObj.live, injOk, kindOf, rens_ints, okIns_ints, List.range, List.range.loop, mrg, mset]
          rw [hc, ← hzn]
          simp (maxSteps := 2000000) only [↓vP0, vQ0, vT0, simprocAttr]
          simp (disch := omega) only [wr64, wru64, wru8, tdv, tmd, fdv]
          rw [← Int.natCast_add]
          refine callK_det (c_rGet E hO.1 (b + c) (by have := hO.2.2.1; omega) (by rw [hO.2.2.2]; exact hcl)) [0, 1, 2] ?_ ?_ ?_ rfl (by simp [rDecL, rDecC_rens, rDecC_okIns, rDecC_inj]) ?_
          · simp [ren, rens, sg, sig, okIn, okIns, exK, leK, leF, leV, matK, objM, renO, roSame, lh, born, AObj.born, AObj.live, injOk, kindOf, rens_ints, okIns_ints, List.range, List.range.loop, mrg, mset, rDecL, rDecC_rens, rDecC_okIns, rDecC_inj]
          · simp [ren, rens, sg, sig, okIn, okIns, exK, leK, leF, leV, matK, objM, renO, roSame, lh, born, AObj.born, AObj.live, injOk, kindOf, rens_ints, okIns_ints, List.range, List.range.loop, mrg, mset, rDecL, rDecC_rens, rDecC_okIns, rDecC_inj]
          · simp [ren, rens, sg, sig, okIn, okIns, exK, leK, leF, leV, matK, objM, renO, roSame, lh, born, AObj.born, AObj.live, injOk, kindOf, rens_ints, okIns_ints, List.range, List.range.loop, mrg, mset, rDecL, rDecC_rens, rDecC_okIns, rDecC_inj]
          simp only [rDecL]
          simp (maxSteps := 2000000) only [↓vP0, vQ0, vT0, simprocAttr, rDecC_rens]
          have hR2 := hO.after (c := b + c) (by omega)
          have hcod : (E.after (b + c)).code = E.code := hR2.2.2.2.trans hO.2.2.2.symm
          rcases derr E (b + c) with ⟨h0, h1⟩ | ⟨h6, h7⟩
          · have e0 : (E.err (b + c) != 0) = false := by rw [h0]; rfl
            have hg := got01 E (b + c)
            have e3 : IntKind.u8.wrap (E.got (b + c)) = E.got (b + c) := u8w _ hg
            rw [rowRun_got _ _ _ _ _ _ _ _ _ _ _ _ _ _ _ (by rfl) (by rw [hcc]; exact h0), hcc] at hrow
            simp (maxSteps := 2000000) only [↓vP0, vQ0, vT0, simprocAttr, e0, e1, e2, e3]
            refine chk_intro (by omega) ?_
            simp (maxSteps := 2000000) only [↓vP0, vQ0, vT0, simprocAttr, e3]
            refine chk_intro (by omega) ?_
            simp (maxSteps := 2000000) only [↓vP0, vQ0, vT0, simprocAttr, ints_set, e3]
            simp (disch := omega) only [wr64, wru64, wru8, tdv, tmd, fdv]
            refine ⟨(x + 1, E.after (b + c), z.set (ixP w y x) (E.got (b + c))), ⟨by simp only; omega, ⟨hR2, hu.set _ hg, by simpa using hul⟩, by simpa only [show w.toNat - (x + 1) = k' by omega] using hrow⟩, by simp only; omega, ?_⟩
            simp only [g8L, hcod, List.length_set, ixP, Int.natCast_add, Int.cast_ofNat_Int]
            (refine ⟨by simp [leF, leV] <;> rfl, ⟨_, by first | rfl | exact (List.append_nil _).symm⟩, by simp, by simp [okIns, okIn, okIns_ints, rDecC_okIns], by simp [AObj.born, okIns, okIn, AObj.cells, okIns_ints, rDecC_okIns]⟩)
          · have e0 : (E.err (b + c) != 0) = true := by rw [h6]; rfl
            rw [rowRun_stop _ _ _ _ _ _ _ _ _ _ _ _ _ _ _ (by rfl) (by rw [hcc, h6]; simp), hcc] at hrow
            have herr : RA.err ≠ 0 := by rw [← hrow]; simp only; rw [h6]; simp
            rw [if_pos herr] at hrun
            subst hrun
            simp (maxSteps := 2000000) only [↓vP0, vQ0, vT0, simprocAttr, e0]
            subst hrow
            simp only at herr hRc
            refine exitB_of [(5, .fr 0 [0, 2])] ?_
            simp (maxSteps := 2000000) only [↓vP0, vQ0, vT0, simprocAttr]
            refine exit_of [9] (.tup [bmV 0 0 4 0, .int .i64 (E.err (b + c))]) (rDecL (E.after (b + c)) ++ [.ro (ints .u8 q) 5, .own (ints .u8 []) 5]) ⟨by simp [herr], by simp [herr, rDecL, rDecC]⟩ ?_ ?_ rfl ?_ ?_
            all_goals simp [ren, rens, sg, sig, okIn, okIns, exK, leK, leF, leV, matK, objM, renO, roSame, lh, born, AObj.born, AObj.live, injOk, kindOf, rens_ints, okIns_ints, List.range, List.range.loop, mrg, mset, rDecL, rDecC_rens, rDecC_okIns, rDecC_inj, ints_nil, herr, hRc, hcod, hEc]
        · have hxw : w.toNat - x = 0 := by omega
          rw [hxw, row_done] at hrow
          have herr : RA.err = 0 := by rw [← hrow]
          rw [if_neg (by rw [herr]; simp)] at hrun
          subst hrow
          simp (maxSteps := 2000000) only [↓vP0, vQ0, vT0, simprocAttr]
          simp (disch := omega) only [wr64, wru64, wru8, tdv, tmd, fdv]
          refine ⟨(y + 1, E, z), ⟨by simp only; omega, hF, by simpa only [show v.toNat - (y + 1) = k by omega] using hrun⟩, by simp only; omega, ?_⟩
          simp only [g8L, Int.natCast_add, Int.cast_ofNat_Int]
          (refine ⟨by simp [leF, leV] <;> rfl, ⟨_, by first | rfl | exact (List.append_nil _).symm⟩, by simp, by simp [okIns, okIn, okIns_ints, rDecC_okIns], by simp [AObj.born, okIns, okIn, AObj.cells, okIns_ints, rDecC_okIns]⟩)
      | true =>
        simp (maxSteps := 2000000) only [↓vP0, vQ0, vT0, simprocAttr]
        refine callK_det (c_rGet D hE.1.1 l (by have := hE.1.2.2.1; omega) (by rw [hcd]; exact hcl)) [0, 1, 2] ?_ ?_ ?_ rfl (by simp [rDecL, rDecC_rens, rDecC_okIns, rDecC_inj]) ?_
        · simp [ren, rens, sg, sig, okIn, okIns, exK, leK, leF, leV, matK, objM, renO, roSame, lh, born, AObj.born, AObj.live, injOk, kindOf, rens_ints, okIns_ints, List.range, List.range.loop, mrg, mset, rDecL, rDecC_rens, rDecC_okIns, rDecC_inj]
        · simp [ren, rens, sg, sig, okIn, okIns, exK, leK, leF, leV, matK, objM, renO, roSame, lh, born, AObj.born, AObj.live, injOk, kindOf, rens_ints, okIns_ints, List.range, List.range.loop, mrg, mset, rDecL, rDecC_rens, rDecC_okIns, rDecC_inj]
        · simp [ren, rens, sg, sig, okIn, okIns, exK, leK, leF, leV, matK, objM, renO, roSame, lh, born, AObj.born, AObj.live, injOk, kindOf, rens_ints, okIns_ints, List.range, List.range.loop, mrg, mset, rDecL, rDecC_rens, rDecC_okIns, rDecC_inj]
        simp only [rDecL]
        simp (maxSteps := 2000000) only [↓vP0, vQ0, vT0, simprocAttr, rDecC_rens]
        have hR1 := hE.1.after (c := l) (by omega)
        have hcod1 : (D.after l).code = D.code := hR1.2.2.2.trans hE.1.2.2.2.symm
        rcases derr D l with ⟨h0, h1⟩ | ⟨h6, h7⟩
        · have e0 : (D.err l != 0) = false := by rw [h0]; rfl
          have hRA' : rowRun t dx dy b w v w' v' q (D.got l == 1) y w.toNat 0 (D.after l) u = RA := by rw [← hRA, rowAll, if_pos rfl, hll, if_neg (by rw [h0]; simp)]
          simp (maxSteps := 2000000) only [↓vP0, vQ0, vT0, simprocAttr, e0]
          refine loopK_of tyok hD (α := Nat × Dec × List Int) (fun s => (s.1 : Int) ≤ w ∧ RInv d (w * v).toNat s.2.1 s.2.2 ∧ rowRun t dx dy b w v w' v' q (D.got l == 1) y (w.toNat - s.1) s.1 s.2.1 s.2.2 = RA) (fun s => w.toNat - s.1)
            (fun s => [.ptr 0 0, .int .i64 b, .junk, .int .i64 w, .int .i64 v, .junk, .junk, .junk, .ptr 4 0, .junk, .junk, .ptr 5 0, .ptr 6 0, .junk, .junk, .int .i64 l, .ptr 8 0, .int .i64 y, .int .i64 (D.got l), .junk, .junk, .int .i64 s.1, .junk, .junk, .junk, .junk, .junk, .junk, .junk, .junk, .junk, .junk, .junk, .junk, .junk, .junk, .junk, .junk, .junk, .junk, .junk, .junk, .junk, .junk, .junk, .junk, .junk, .junk, .junk, .junk, .junk, .junk, .junk, .junk, .junk, .junk, .junk, .junk, .junk, .junk, .junk, .junk, .junk, .junk, .junk, .junk, .junk, .junk, .junk, .junk, .junk, .junk, .junk, .junk, .junk, .junk, .junk, .junk, .junk, .junk, .junk, .junk, .junk, .junk, .junk, .junk, .junk, .junk, .junk, .junk, .junk, .junk, .junk, .junk, .junk, .junk, .junk, .junk, .junk, .junk, .junk, .junk, .junk, .junk, .junk, .junk, .junk, .junk, .junk, .junk, .junk, .junk, .junk, .junk, .junk, .junk, .junk, .junk, .junk, .junk, .junk, .junk, .junk, .junk, .junk, .junk])
            (fun s => g8L t dx dy true kd w v w' v' q s.2.1 s.2.2 n) (0, D.after l, u) ⟨by simp; omega, ⟨hR1, hE.2.1, hE.2.2⟩, by simpa using hRA'⟩ ?_ ?_
          · simp only [g8L, hcod1]
            (refine ⟨by simp [leF, leV] <;> rfl, ⟨_, by first | rfl | exact (List.append_nil _).symm⟩, by simp, by simp [okIns, okIn, okIns_ints, rDecC_okIns], by simp [AObj.born, okIns, okIn, AObj.cells, okIns_ints, rDecC_okIns]⟩)
          rintro ⟨x, E, z⟩ ⟨hx, hF, hrow⟩
          simp only at hx hF hrow
          obtain ⟨hO, hu, hul⟩ := id hF
          have hEc : E.code = d.code := hO.2.2.2
          have hub : BmOk w v z := ⟨hsz, by omega⟩
          have hzn : n = z.length := by omega
          simp only [g8L]
          simp (maxSteps := 2000000) only [↓vP0, vQ0, vT0, simprocAttr]
          (with_reducible first | refine condK_dec (fun h => ?_) (fun h => ?_) | refine condK_beq (fun h => ?_) (fun h => ?_) | refine condK_bne (fun h => ?_) (fun h => ?_) | refine condK_intro (fun h => ?_) (fun h => ?_))
          · have hxs : Small (x : Int) := ⟨by omega, by omega⟩
            obtain ⟨k', hk'⟩ : ∃ k, w.toNat - x = k + 1 := ⟨w.toNat - x - 1, by omega⟩
            rw [hk'] at hrow
            have hbd := at_bd (w := w) (h := v) (x := x) (y := y) (by omega) (by omega) (by omega) (by omega)
            have e1 : IntKind.i64.wrap ((y : Int) * w) = (y : Int) * w := by simp (disch := omega) only [wr64, wru64, wru8, tdv, tmd, fdv]
            have e2 : IntKind.i64.wrap ((y : Int) * w + x) = (y : Int) * w + x := by simp (disch := omega) only [wr64, wru64, wru8, tdv, tmd, fdv]
            have hix : (ixP w y x : Int) = (y : Int) * w + x := ixP_eq (by omega) y x
            have hcl2 : cxP t dx dy b w v w' v' q z y x < d.st.length := by have := cx_lt (t := t) (dx := dx) (dy := dy) (base := b) (w := w) (v := v) (w' := w') (v' := v') ho.1 hu hq y x; omega
            obtain ⟨cb0, cb1⟩ := ctx_bd (w := w) (v := v) (w' := w') (v' := v') hu hq t dx dy x y ho.1
            obtain ⟨c, hc⟩ : ∃ c : Nat, ctxOf t dx dy w v z w' v' q x y = (c : Int) := ⟨_, (Int.toNat_of_nonneg cb0).symm⟩
            have hcc : cxP t dx dy b w v w' v' q z y x = b + c := by unfold cxP; rw [hc]; rfl
            simp (maxSteps := 2000000) only [↓vP0, vQ0, vT0, simprocAttr, e1, e2]
            refine callK_read (c_rAlike t dx dy true kd ho.2.2 w' v' q hr x y hxs hys) [3] ?_ ?_ ?_ rfl ?_
            · simp [ren, rens, sg, sig, okIn, okIns, exK, leK, leF, leV, matK, objM, renO, roSame, lh, born, AObj.born, AObj.live, injOk, kindOf, rens_ints, okIns_ints, List.range, List.range.loop, mrg, mset]
            · simp [ren, rens, sg, sig, okIn, okIns, exK, leK, leF, leV, matK, objM, renO, roSame, lh, born, AObj.born, AObj.live, injOk, kindOf, rens_ints, okIns_ints, List.range, List.range.loop, mrg, mset]
            · simp [ren, rens, sg, sig, okIn, okIns, exK, leK, leF, leV, matK, objM, renO, roSame, lh, born, AObj.born, AObj.live, injOk, kindOf, rens_ints, okIns_ints, List.range, List.range.loop, mrg, mset]
            cases hfl : (D.got l == 1 && flatB dx dy w' v' q x y) with
            | false =>
              cases htt : (D.got l == 1) with
              | false =>
                have htz : (D.got l == 0) = true := by rcases got01 D l with h | h <;> simp [h] at htt ⊢
                simp (maxSteps := 2000000) only [↓vP0, vQ0, vT0, simprocAttr, htz]
                rw [hzn]
                refine callK_read (c_rContext t ho.1 dx dy true kd ho.2.2 w v w' v' z q hub hr hu hq x y hxs hys) [7, 3] ?_ ?_ ?_ rfl ?_
                · simp [ren, rens, sg, sig, okIn, okIns, exK, leK, leF, leV, matK, objM, renO, roSame, lh, born, AObj.born, AObj.live, injOk, kindOf, rens_ints, okIns_ints, List.range, List.range.loop, mrg, mset]
                · simp [ren, rens, sg, sig, okIn, okIns, exK, leK, leF, leV, matK, objM, renO, roSame, lh, born, AObj.born, AObj.live, injOk, kindOf, rens_ints, okIns_ints, List.range, List.range.loop, mrg, mset]
                · simp [ren, rens, sg, sig, okIn, okIns, exK, leK, leF, leV, matK, objM, renO, roSame, lh, born, AObj.born, AObj.live, injOk, kindOf, rens_ints, okIns_ints, List.range, List.range.loop, mrg, mset]
                rw [hc, ← hzn]
                simp (maxSteps := 2000000) only [↓vP0, vQ0, vT0, simprocAttr]
                simp (disch := omega) only [wr64, wru64, wru8, tdv, tmd, fdv]
                rw [← Int.natCast_add]
                refine callK_det (c_rGet E hO.1 (b + c) (by have := hO.2.2.1; omega) (by rw [hO.2.2.2]; exact hcl)) [0, 1, 2] ?_ ?_ ?_ rfl (by simp [rDecL, rDecC_rens, rDecC_okIns, rDecC_inj]) ?_
                · simp [ren, rens, sg, sig, okIn, okIns, exK, leK, leF, leV, matK, objM, renO, roSame, lh, born, AObj.born, AObj.live, injOk, kindOf, rens_ints, okIns_ints, List.range, List.range.loop, mrg, mset, rDecL, rDecC_rens, rDecC_okIns, rDecC_inj]
                · simp [ren, rens, sg, sig, okIn, okIns, exK, leK, leF, leV, matK, objM, renO, roSame, lh, born, AObj.born, AObj.live, injOk, kindOf, rens_ints, okIns_ints, List.range, List.range.loop, mrg, mset, rDecL, rDecC_rens, rDecC_okIns, rDecC_inj]
                · simp [ren, rens, sg, sig, okIn, okIns, exK, leK, leF, leV, matK, objM, renO, roSame, lh, born, AObj.born, AObj.live, injOk, kindOf, rens_ints, okIns_ints, List.range, List.range.loop, mrg, mset, rDecL, rDecC_rens, rDecC_okIns, rDecC_inj]
                simp only [rDecL]
                simp (maxSteps := 2000000) only [↓vP0, vQ0, vT0, simprocAttr, rDecC_rens]
                have hR2 := hO.after (c := b + c) (by omega)
                have hcod : (E.after (b + c)).code = E.code := hR2.2.2.2.trans hO.2.2.2.symm
                rcases derr E (b + c) with ⟨h0, h1⟩ | ⟨h6, h7⟩
                · have e0 : (E.err (b + c) != 0) = false := by rw [h0]; rfl
                  have hg := got01 E (b + c)
                  have e3 : IntKind.u8.wrap (E.got (b + c)) = E.got (b + c) := u8w _ hg
                  rw [rowRun_got _ _ _ _ _ _ _ _ _ _ _ _ _ _ _ hfl (by rw [hcc]; exact h0), hcc] at hrow
                  simp (maxSteps := 2000000) only [↓vP0, vQ0, vT0, simprocAttr, e0, e1, e2, e3]
                  refine chk_intro (by omega) ?_
                  simp (maxSteps := 2000000) only [↓vP0, vQ0, vT0, simprocAttr, e3]
                  refine chk_intro (by omega) ?_
                  simp (maxSteps := 2000000) only [↓vP0, vQ0, vT0, simprocAttr, ints_set, e3]
                  simp (disch := omega) only [wr64, wru64, wru8, tdv, tmd, fdv]
                  refine ⟨(x + 1, E.after (b + c), z.set (ixP w y x) (E.got (b + c))), ⟨by simp only; omega, ⟨hR2, hu.set _ hg, by simpa using hul⟩, by simpa only [show w.toNat - (x + 1) = k' by omega, htt] using hrow⟩, by simp only; omega, ?_⟩
                  simp only [g8L, hcod, List.length_set, ixP, Int.natCast_add, Int.cast_ofNat_Int]
                  (refine ⟨by simp [leF, leV] <;> rfl, ⟨_, by first | rfl | exact (List.append_nil _).symm⟩, by simp, by simp [okIns, okIn, okIns_ints, rDecC_okIns], by simp [AObj.born, okIns, okIn, AObj.cells, okIns_ints, rDecC_okIns]⟩)
                · have e0 : (E.err (b + c) != 0) = true := by rw [h6]; rfl
                  rw [rowRun_stop _ _ _ _ _ _ _ _ _ _ _ _ _ _ _ hfl (by rw [hcc, h6]; simp), hcc] at hrow
                  have herr : RA.err ≠ 0 := by rw [← hrow]; simp only; rw [h6]; simp
                  rw [if_pos herr] at hrun
                  subst hrun
                  simp (maxSteps := 2000000) only [↓vP0, vQ0, vT0, simprocAttr, e0]
                  subst hrow
                  simp only at herr hRc
                  refine exitB_of [(5, .fr 0 [0, 2])] ?_
                  simp (maxSteps := 2000000) only [↓vP0, vQ0, vT0, simprocAttr]
                  refine exit_of [9] (.tup [bmV 0 0 4 0, .int .i64 (E.err (b + c))]) (rDecL (E.after (b + c)) ++ [.ro (ints .u8 q) 5, .own (ints .u8 []) 5]) ⟨by simp [herr], by simp [herr, rDecL, rDecC]⟩ ?_ ?_ rfl ?_ ?_
                  all_goals simp [ren, rens, sg, sig, okIn, okIns, exK, leK, leF, leV, matK, objM, renO, roSame, lh, born, AObj.born, AObj.live, injOk, kindOf, rens_ints, okIns_ints, List.range, List.range.loop, mrg, mset, rDecL, rDecC_rens, rDecC_okIns, rDecC_inj, ints_nil, herr, hRc, hcod, hEc]
              | true =>
                have htz : (D.got l == 0) = false := by rcases got01 D l with h | h <;> simp [h] at htt ⊢
                rw [htt, Bool.true_and] at hfl
                simp (maxSteps := 2000000) only [↓vP0, vQ0, vT0, simprocAttr, htz, hfl]
                rw [hzn]
                refine callK_read (c_rContext t ho.1 dx dy true kd ho.2.2 w v w' v' z q hub hr hu hq x y hxs hys) [7, 3] ?_ ?_ ?_ rfl ?_
                · simp [ren, rens, sg, sig, okIn, okIns, exK, leK, leF, leV, matK, objM, renO, roSame, lh, born, AObj.born, AObj.live, injOk, kindOf, rens_ints, okIns_ints, List.range, List.range.loop, mrg, mset]
                · simp [ren, rens, sg, sig, okIn, okIns, exK, leK, leF, leV, matK, objM, renO, roSame, lh, born, AObj.born, AObj.live, injOk, kindOf, rens_ints, okIns_ints, List.range, List.range.loop, mrg, mset]
                · simp [ren, rens, sg, sig, okIn, okIns, exK, leK, leF, leV, matK, objM, renO, roSame, lh, born, AObj.born, AObj.live, injOk, kindOf, rens_ints, okIns_ints, List.range, List.range.loop, mrg, mset]
                rw [hc, ← hzn]
                simp (maxSteps := 2000000) only [↓vP0, vQ0, vT0, simprocAttr]
                simp (disch := omega) only [wr64, wru64, wru8, tdv, tmd, fdv]
                rw [← Int.natCast_add]
                refine callK_det (c_rGet E hO.1 (b + c) (by have := hO.2.2.1; omega) (by rw [hO.2.2.2]; exact hcl)) [0, 1, 2] ?_ ?_ ?_ rfl (by simp [rDecL, rDecC_rens, rDecC_okIns, rDecC_inj]) ?_
                · simp [ren, rens, sg, sig, okIn, okIns, exK, leK, leF, leV, matK, objM, renO, roSame, lh, born, AObj.born, AObj.live, injOk, kindOf, rens_ints, okIns_ints, List.range, List.range.loop, mrg, mset, rDecL, rDecC_rens, rDecC_okIns, rDecC_inj]
                · simp [ren, rens, sg, sig, okIn, okIns, exK, leK, leF, leV, matK, objM, renO, roSame, lh, born, AObj.born, AObj.live, injOk, kindOf, rens_ints, okIns_ints, List.range, List.range.loop, mrg, mset, rDecL, rDecC_rens, rDecC_okIns, rDecC_inj]
                · simp [ren, rens, sg, sig, okIn, okIns, exK, leK, leF, leV, matK, objM, renO, roSame, lh, born, AObj.born, AObj.live, injOk, kindOf, rens_ints, okIns_ints, List.range, List.range.loop, mrg, mset, rDecL, rDecC_rens, rDecC_okIns, rDecC_inj]
                simp only [rDecL]
                simp (maxSteps := 2000000) only [↓vP0, vQ0, vT0, simprocAttr, rDecC_rens]
                have hR2 := hO.after (c := b + c) (by omega)
                have hcod : (E.after (b + c)).code = E.code := hR2.2.2.2.trans hO.2.2.2.symm
                rcases derr E (b + c) with ⟨h0, h1⟩ | ⟨h6, h7⟩
                · have e0 : (E.err (b + c) != 0) = false := by rw [h0]; rfl
                  have hg := got01 E (b + c)
                  have e3 : IntKind.u8.wrap (E.got (b + c)) = E.got (b + c) := u8w _ hg
                  rw [rowRun_got _ _ _ _ _ _ _ _ _ _ _ _ _ _ _ (by rw [htt, hfl]; rfl) (by rw [hcc]; exact h0), hcc] at hrow
                  simp (maxSteps := 2000000) only [↓vP0, vQ0, vT0, simprocAttr, e0, e1, e2, e3]
                  refine chk_intro (by omega) ?_
                  simp (maxSteps := 2000000) only [↓vP0, vQ0, vT0, simprocAttr, e3]
                  refine chk_intro (by omega) ?_
                  simp (maxSteps := 2000000) only [↓vP0, vQ0, vT0, simprocAttr, ints_set, e3]
                  simp (disch := omega) only [wr64, wru64, wru8, tdv, tmd, fdv]
                  refine ⟨(x + 1, E.after (b + c), z.set (ixP w y x) (E.got (b + c))), ⟨by simp only; omega, ⟨hR2, hu.set _ hg, by simpa using hul⟩, by simpa only [show w.toNat - (x + 1) = k' by omega, htt] using hrow⟩, by simp only; omega, ?_⟩
                  simp only [g8L, hcod, List.length_set, ixP, Int.natCast_add, Int.cast_ofNat_Int]
                  (refine ⟨by simp [leF, leV] <;> rfl, ⟨_, by first | rfl | exact (List.append_nil _).symm⟩, by simp, by simp [okIns, okIn, okIns_ints, rDecC_okIns], by simp [AObj.born, okIns, okIn, AObj.cells, okIns_ints, rDecC_okIns]⟩)
                · have e0 : (E.err (b + c) != 0) = true := by rw [h6]; rfl
                  rw [rowRun_stop _ _ _ _ _ _ _ _ _ _ _ _ _ _ _ (by rw [htt, hfl]; rfl) (by rw [hcc, h6]; simp), hcc] at hrow
                  have herr : RA.err ≠ 0 := by rw [← hrow]; simp only; rw [h6]; simp
                  rw [if_pos herr] at hrun
                  subst hrun
                  simp (maxSteps := 2000000) only [↓vP0, vQ0, vT0, simprocAttr, e0]
                  subst hrow
                  simp only at herr hRc
                  refine exitB_of [(5, .fr 0 [0, 2])] ?_
                  simp (maxSteps := 2000000) only [↓vP0, vQ0, vT0, simprocAttr]
                  refine exit_of [9] (.tup [bmV 0 0 4 0, .int .i64 (E.err (b + c))]) (rDecL (E.after (b + c)) ++ [.ro (ints .u8 q) 5, .own (ints .u8 []) 5]) ⟨by simp [herr], by simp [herr, rDecL, rDecC]⟩ ?_ ?_ rfl ?_ ?_
                  all_goals simp [ren, rens, sg, sig, okIn, okIns, exK, leK, leF, leV, matK, objM, renO, roSame, lh, born, AObj.born, AObj.live, injOk, kindOf, rens_ints, okIns_ints, List.range, List.range.loop, mrg, mset, rDecL, rDecC_rens, rDecC_okIns, rDecC_inj, ints_nil, herr, hRc, hcod, hEc]
            | true =>
              have hfl2 := hfl
              rw [Bool.and_eq_true] at hfl2
              have htz : (D.got l == 0) = false := by rcases got01 D l with h | h <;> simp [h] at hfl2 ⊢
              have e4 := flatC01 hq dx dy w' v' x y
              rw [rowRun_flat _ _ _ _ _ _ _ _ _ _ _ _ _ _ _ hfl] at hrow
              simp (maxSteps := 2000000) only [↓vP0, vQ0, vT0, simprocAttr, htz, hfl2.2, e1, e2]
              refine chk_intro (by omega) ?_
              simp (maxSteps := 2000000) only [↓vP0, vQ0, vT0, simprocAttr]
              refine chk_intro (by omega) ?_
              simp (maxSteps := 2000000) only [↓vP0, vQ0, vT0, simprocAttr, ints_set]
              simp (disch := omega) only [wr64, wru64, wru8, tdv, tmd, fdv]
              refine ⟨(x + 1, E, z.set (ixP w y x) (flatC dx dy w' v' q x y)), ⟨by simp only; omega, ⟨hO, hu.set _ e4, by simpa using hul⟩, by simpa only [show w.toNat - (x + 1) = k' by omega] using hrow⟩, by simp only; omega, ?_⟩
              simp only [g8L, List.length_set, ixP, Int.natCast_add, Int.cast_ofNat_Int]
              (refine ⟨by simp [leF, leV] <;> rfl, ⟨_, by first | rfl | exact (List.append_nil _).symm⟩, by simp, by simp [okIns, okIn, okIns_ints, rDecC_okIns], by simp [AObj.born, okIns, okIn, AObj.cells, okIns_ints, rDecC_okIns]⟩)
          · have hxw : w.toNat - x = 0 := by omega
            rw [hxw, row_done] at hrow
            have herr : RA.err = 0 := by rw [← hrow]
            rw [if_neg (by rw [herr]; simp)] at hrun
            subst hrow
            simp (maxSteps := 2000000) only [↓vP0, vQ0, vT0, simprocAttr]
            simp (disch := omega) only [wr64, wru64, wru8, tdv, tmd, fdv]
            refine ⟨(y + 1, E, z), ⟨by simp only; omega, hF, by simpa only [show v.toNat - (y + 1) = k by omega] using hrun⟩, by simp only; omega, ?_⟩
            simp only [g8L, Int.natCast_add, Int.cast_ofNat_Int]
            (refine ⟨by simp [leF, leV] <;> rfl, ⟨_, by first | rfl | exact (List.append_nil _).symm⟩, by simp, by simp [okIns, okIn, okIns_ints, rDecC_okIns], by simp [AObj.born, okIns, okIn, AObj.cells, okIns_ints, rDecC_okIns]⟩)
        · have e0 : (D.err l != 0) = true := by rw [h6]; rfl
          have hRA' : RA = ⟨D.after l, u, D.err l⟩ := by rw [← hRA, rowAll, if_pos rfl, hll, if_pos (by rw [h6]; simp)]
          have herr : RA.err ≠ 0 := by rw [hRA']; simp only; rw [h6]; simp
          rw [if_pos herr] at hrun
          subst hrun
          simp (maxSteps := 2000000) only [↓vP0, vQ0, vT0, simprocAttr, e0]
          subst hRA'
          simp only at herr hRc
          refine exitB_of [(5, .fr 0 [0, 2])] ?_
          simp (maxSteps := 2000000) only [↓vP0, vQ0, vT0, simprocAttr]
          refine exit_of [9] (.tup [bmV 0 0 4 0, .int .i64 (D.err l)]) (rDecL (D.after l) ++ [.ro (ints .u8 q) 5, .own (ints .u8 []) 5]) ⟨by simp [herr], by simp [herr, rDecL, rDecC]⟩ ?_ ?_ rfl ?_ ?_
          all_goals simp [ren, rens, sg, sig, okIn, okIns, exK, leK, leF, leV, matK, objM, renO, roSame, lh, born, AObj.born, AObj.live, injOk, kindOf, rens_ints, okIns_ints, List.range, List.range.loop, mrg, mset, rDecL, rDecC_rens, rDecC_okIns, rDecC_inj, ints_nil, herr, hRc, hcod1, hcd]
    · have hyv : v.toNat - y = 0 := by omega
      rw [hyv, regRun] at hrun
      have hun : n = u.length := by have := hE.2.2; omega
      subst hrun
      simp (maxSteps := 2000000) only [↓vP0, vQ0, vT0, simprocAttr]
      refine exitB_P ?_
      refine exit_of [7] (.tup [bmV w v 4 u.length, .int .i64 0]) (rDecL D ++ [.ro (ints .u8 q) 5, .own (ints .u8 u) 5]) ⟨rfl, rfl⟩ ?_ ?_ rfl ?_ ?_
      all_goals simp [ren, rens, sg, sig, okIn, okIns, exK, leK, leF, leV, matK, objM, renO, roSame, lh, born, AObj.born, AObj.live, injOk, kindOf, rens_ints, okIns_ints, List.range, List.range.loop, mrg, mset, rDecL, rDecC_rens, rDecC_okIns, rDecC_inj, hcd, hun]
end Go.Proofs.Ytbfefpkhalegmaa

set_option linter.unusedVariables false
set_option linter.unusedSimpArgs false
namespace Go.Proofs.Ytbfefpkhalegmaa
open Go
set_option maxHeartbeats 4000000
set_option maxRecDepth 20000

section
variable (t dx dy : Int) (ty : Bool) (kd w v : Int) (p : List Int) (w' v' : Int) (q : List Int)
def reAll : Enc := encAll (encNew kd (zeros (sizeN t).toNat)) (refEv t dx dy ty w v p w' v' q)
def reErr : Int := if ¬ OptOk t dx dy kd then 2 else if (bmB w v p && bmB w' v' q) = false then 30 else 0
def reCode : List Int := if reErr t dx dy kd w v p w' v' q ≠ 0 then [] else (reAll t dx dy ty kd w v p w' v' q).fin
end
theorem encNew_okZ {kd : Int} (hk : KdOk kd) {n : Nat} (hn : n ≤ 8192) (h0 : 0 < n) : (encNew kd (zeros n)).Ok := encNew_ok (zeros_ok hk (by omega))
theorem reAll_ok {t dx dy : Int} {ty : Bool} {kd w v : Int} {p : List Int} {w' v' : Int} {q : List Int} (ho : OptOk t dx dy kd) (hb : BmOk w v p) (hp : PixOk p) (hq : PixOk q) :
    (reAll t dx dy ty kd w v p w' v' q).Ok ∧ (reAll t dx dy ty kd w v p w' v' q).st.length = (sizeN t).toNat ∧ (reAll t dx dy ty kd w v p w' v' q).out.length ≤ 200000 ∧ ByOk (reAll t dx dy ty kd w v p w' v' q).fin ∧ (reAll t dx dy ty kd w v p w' v' q).kd = kd := by
  have hs0 : sizeN t = 513 ∨ sizeN t = 129 := by unfold sizeN; split <;> simp
  have hN := encNew_okZ ho.2.1 (n := (sizeN t).toNat) (by omega) (by omega)
  have hE : EvsOk (encNew kd (zeros (sizeN t).toNat)).st.length (refEv t dx dy ty w v p w' v' q) := by
    have : (encNew kd (zeros (sizeN t).toNat)).st.length = (sizeN t).toNat := by simp [encNew, zeros]
    rw [this]; exact refEv_ok ho.1 hp hq
  obtain ⟨a, b, c, d⟩ := encAll_ok _ _ hN hE
  have hl := refEv_len (t := t) (dx := dx) (dy := dy) (ty := ty) (p := p) (w' := w') (v' := v') (q := q) hb.1.2.1 hb.1.2.2.2.1
  have hz : (encNew kd (zeros (sizeN t).toNat)).out.length = 0 := by simp [encNew]
  refine ⟨a, by rw [reAll, c]; simp [encNew, zeros], by rw [reAll]; omega, fin_by a (encAll_by _ _ hN hE (fun x hx => by simp [encNew] at hx)), b⟩

theorem c_r8Encode (t dx dy : Int) (ty : Bool) (kd w v w' v' : Int) (p q : List Int) (hpl : p.length ≤ 9223372036854775807) (hql : q.length ≤ 9223372036854775807) (hbp : ByOk p) (hbq : ByOk q) :
    LCall Try.prog 30 [optV t dx dy ty kd, bmV w v 0 p.length, bmV w' v' 1 q.length] (pix2L p q) fun r L =>
      r = .tup [.slice 2 0 (reCode t dx dy ty kd w v p w' v' q).length, .int .i64 (reErr t dx dy kd w v p w' v' q)] ∧ L = pix2L p q ++ [.own (ints .u8 (reCode t dx dy ty kd w v p w' v' q)) 5] := by
  have fail : ∀ a, reErr t dx dy kd w v p w' v' q = a → a ≠ 0 → reCode t dx dy ty kd w v p w' v' q = [] := fun a h h0 => by rw [reCode, if_pos (by rw [h]; exact h0)]
  refine lcall_of_vcB tyok Try.func30 rfl (by rfl) Try.results30 Try.ntmps30 ?_; intro C hD
  simp (maxSteps := 2000000) only [↓vP0, vQ0, vT0, simprocAttr]
  refine callK_pure (c_rRefValid t dx dy ty kd) rfl rfl ?_
  by_cases ho : OptOk t dx dy kd
  case neg =>
    have f1 : reErr t dx dy kd w v p w' v' q = 2 := by rw [reErr, if_pos ho]
    rw [fail 2 f1 (by omega), f1]
    simp (maxSteps := 2000000) only [↓vP0, vQ0, vT0, simprocAttr, dN ho]
    refine exitB_of [(5, .fr 0 [0])] ?_
    simp (maxSteps := 2000000) only [↓vP0, vQ0, vT0, simprocAttr]
    refine exit_of [5] (.tup [.slice 2 0 0, .int .i64 2]) (pix2L p q ++ [.own (ints .u8 []) 5]) ⟨rfl, rfl⟩ ?_ ?_ rfl ?_ ?_
    all_goals simp [ren, rens, sg, sig, okIn, okIns, exK, leK, leF, leV, matK, objM, renO, roSame, lh, born, AObj.born, AObj.live, injOk, kindOf, rens_ints, okIns_ints, List.range, List.range.loop, mrg, mset, ints_nil]
  case pos =>
    simp (maxSteps := 2000000) only [↓vP0, vQ0, vT0, simprocAttr, dT ho]
    refine callK_read (c_rIsBitmap w v p hpl) [0] ?_ ?_ ?_ rfl ?_
    · simp [ren, rens, sg, sig, okIn, okIns, exK, leK, leF, leV, matK, objM, renO, roSame, lh, born, AObj.born, AObj.live, injOk, kindOf, rens_ints, okIns_ints, List.range, List.range.loop, mrg, mset]
    · simp [ren, rens, sg, sig, okIn, okIns, exK, leK, leF, leV, matK, objM, renO, roSame, lh, born, AObj.born, AObj.live, injOk, kindOf, rens_ints, okIns_ints, List.range, List.range.loop, mrg, mset]
    · simp [ren, rens, sg, sig, okIn, okIns, exK, leK, leF, leV, matK, objM, renO, roSame, lh, born, AObj.born, AObj.live, injOk, kindOf, rens_ints, okIns_ints, List.range, List.range.loop, mrg, mset]
    cases hb1 : bmB w v p with
    | false =>
      have f1 : reErr t dx dy kd w v p w' v' q = 30 := by rw [reErr, if_neg (not_not_intro ho), hb1, Bool.false_and, if_pos rfl]
      rw [fail 30 f1 (by omega), f1]
      simp (maxSteps := 2000000) only [↓vP0, vQ0, vT0, simprocAttr]
      refine exitB_of [(5, .fr 0 [0])] ?_
      simp (maxSteps := 2000000) only [↓vP0, vQ0, vT0, simprocAttr]
      refine exit_of [5] (.tup [.slice 2 0 0, .int .i64 30]) (pix2L p q ++ [.own (ints .u8 []) 5]) ⟨rfl, rfl⟩ ?_ ?_ rfl ?_ ?_
      all_goals simp [ren, rens, sg, sig, okIn, okIns, exK, leK, leF, leV, matK, objM, renO, roSame, lh, born, AObj.born, AObj.live, injOk, kindOf, rens_ints, okIns_ints, List.range, List.range.loop, mrg, mset, ints_nil]
    | true =>
      simp (maxSteps := 2000000) only [↓vP0, vQ0, vT0, simprocAttr]
      refine callK_read (c_rIsBitmap w' v' q hql) [1] ?_ ?_ ?_ rfl ?_
      · simp [ren, rens, sg, sig, okIn, okIns, exK, leK, leF, leV, matK, objM, renO, roSame, lh, born, AObj.born, AObj.live, injOk, kindOf, rens_ints, okIns_ints, List.range, List.range.loop, mrg, mset]
      · simp [ren, rens, sg, sig, okIn, okIns, exK, leK, leF, leV, matK, objM, renO, roSame, lh, born, AObj.born, AObj.live, injOk, kindOf, rens_ints, okIns_ints, List.range, List.range.loop, mrg, mset]
      · simp [ren, rens, sg, sig, okIn, okIns, exK, leK, leF, leV, matK, objM, renO, roSame, lh, born, AObj.born, AObj.live, injOk, kindOf, rens_ints, okIns_ints, List.range, List.range.loop, mrg, mset]
      cases hr1 : bmB w' v' q with
      | false =>
        have f1 : reErr t dx dy kd w v p w' v' q = 30 := by rw [reErr, if_neg (not_not_intro ho), hr1, Bool.and_false, if_pos rfl]
        rw [fail 30 f1 (by omega), f1]
        simp (maxSteps := 2000000) only [↓vP0, vQ0, vT0, simprocAttr]
        refine exitB_of [(5, .fr 0 [0])] ?_
        simp (maxSteps := 2000000) only [↓vP0, vQ0, vT0, simprocAttr]
        refine exit_of [5] (.tup [.slice 2 0 0, .int .i64 30]) (pix2L p q ++ [.own (ints .u8 []) 5]) ⟨rfl, rfl⟩ ?_ ?_ rfl ?_ ?_
        all_goals simp [ren, rens, sg, sig, okIn, okIns, exK, leK, leF, leV, matK, objM, renO, roSame, lh, born, AObj.born, AObj.live, injOk, kindOf, rens_ints, okIns_ints, List.range, List.range.loop, mrg, mset, ints_nil]
      | true =>
        obtain ⟨hb, hp⟩ := bmB_ok hbp hb1
        obtain ⟨hr, hq⟩ := bmB_ok hbq hr1
        have f1 : reErr t dx dy kd w v p w' v' q = 0 := by rw [reErr, if_neg (not_not_intro ho), hb1, hr1, if_neg (by simp)]
        have f2 : reCode t dx dy ty kd w v p w' v' q = (reAll t dx dy ty kd w v p w' v' q).fin := by rw [reCode, if_neg (by rw [f1]; simp)]
        rw [f1, f2]
        obtain ⟨k1, k2, k3, _⟩ := reAll_ok (ty := ty) (w' := w') (v' := v') ho hb hp hq
        have hs0 : sizeN t = 513 ∨ sizeN t = 129 := by unfold sizeN; split <;> simp
        have hre : reAll t dx dy ty kd w v p w' v' q = encAll (encNew kd (zeros (sizeN t).toNat)) (mv 0 (refEv t dx dy ty w v p w' v' q)) := by rw [mv_zero]; rfl
        generalize hE : reAll t dx dy ty kd w v p w' v' q = E at *
        have hN := encNew_okZ ho.2.1 (n := (sizeN t).toNat) (by omega) (by omega)
        have hz := zeros_ok ho.2.1 (n := (sizeN t).toNat) (by omega)
        simp (maxSteps := 2000000) only [↓vP0, vQ0, vT0, simprocAttr]
        refine callK_det (c_rFresh t (sizeN t).toNat (by rw [Int.toNat_of_nonneg (by omega)]; rfl) (by omega) dx dy ty kd) [] ?_ ?_ ?_ rfl (by simp) ?_
        · simp [ren, rens, sg, sig, okIn, okIns, exK, leK, leF, leV, matK, objM, renO, roSame, lh, born, AObj.born, AObj.live, injOk, kindOf, rens_ints, okIns_ints, List.range, List.range.loop, mrg, mset]
        · simp [ren, rens, sg, sig, okIn, okIns, exK, leK, leF, leV, matK, objM, renO, roSame, lh, born, AObj.born, AObj.live, injOk, kindOf, rens_ints, okIns_ints, List.range, List.range.loop, mrg, mset]
        · simp [ren, rens, sg, sig, okIn, okIns, exK, leK, leF, leV, matK, objM, renO, roSame, lh, born, AObj.born, AObj.live, injOk, kindOf, rens_ints, okIns_ints, List.range, List.range.loop, mrg, mset]
        simp (maxSteps := 2000000) only [↓vP0, vQ0, vT0, simprocAttr]
        refine callK_det (c_rNewEncoder kd (zeros (sizeN t).toNat) hz) [5] ?_ ?_ ?_ rfl (by simp [zeros]) ?_
        · simp [ren, rens, sg, sig, okIn, okIns, exK, leK, leF, leV, matK, objM, renO, roSame, lh, born, AObj.born, AObj.live, injOk, kindOf, rens_ints, okIns_ints, List.range, List.range.loop, mrg, mset, zeros]
        · simp [ren, rens, sg, sig, okIn, okIns, exK, leK, leF, leV, matK, objM, renO, roSame, lh, born, AObj.born, AObj.live, injOk, kindOf, rens_ints, okIns_ints, List.range, List.range.loop, mrg, mset, zeros]
        · simp [ren, rens, sg, sig, okIn, okIns, exK, leK, leF, leV, matK, objM, renO, roSame, lh, born, AObj.born, AObj.live, injOk, kindOf, rens_ints, okIns_ints, List.range, List.range.loop, mrg, mset, zeros]
        simp (maxSteps := 2000000) only [↓vP0, vQ0, vT0, simprocAttr]
        refine callK_det (c_r8Put (encNew kd (zeros (sizeN t).toNat)) hN 0 t dx dy ty kd ho w v w' v' p q hb hr hp hq hb1 hr1 (by simp [encNew, zeros]; omega) (by simp [encNew, zeros]; omega) (by simp [encNew]) E hre) [6, 7, 8, 0, 1] ?_ ?_ ?_ rfl (by simp [rEncL, rEncC_rens, rEncC_okIns, rEncC_inj, encNew, ints_nil]) ?_
        · simp [ren, rens, sg, sig, okIn, okIns, exK, leK, leF, leV, matK, objM, renO, roSame, lh, born, AObj.born, AObj.live, injOk, kindOf, rens_ints, okIns_ints, List.range, List.range.loop, mrg, mset, rEncL, rEncC_rens, rEncC_okIns, rEncC_inj, encNew, ints_nil]
        · simp [ren, rens, sg, sig, okIn, okIns, exK, leK, leF, leV, matK, objM, renO, roSame, lh, born, AObj.born, AObj.live, injOk, kindOf, rens_ints, okIns_ints, List.range, List.range.loop, mrg, mset, rEncL, rEncC_rens, rEncC_okIns, rEncC_inj, encNew, ints_nil]
        · simp [ren, rens, sg, sig, okIn, okIns, exK, leK, leF, leV, matK, objM, renO, roSame, lh, born, AObj.born, AObj.live, injOk, kindOf, rens_ints, okIns_ints, List.range, List.range.loop, mrg, mset, rEncL, rEncC_rens, rEncC_okIns, rEncC_inj, encNew, ints_nil]
        simp only [rEncL]
        simp (maxSteps := 2000000) only [↓vP0, vQ0, vT0, simprocAttr, rEncC_rens]
        refine callK_det (c_rEnd E k1 (by omega)) [6, 7, 9] ?_ ?_ ?_ rfl (by simp [rEncR, rEncC_rens, rEncC_okIns, rEncC_inj]) ?_
        · simp [ren, rens, sg, sig, okIn, okIns, exK, leK, leF, leV, matK, objM, renO, roSame, lh, born, AObj.born, AObj.live, injOk, kindOf, rens_ints, okIns_ints, List.range, List.range.loop, mrg, mset, rEncR, rEncC_rens, rEncC_okIns, rEncC_inj]
        · simp [ren, rens, sg, sig, okIn, okIns, exK, leK, leF, leV, matK, objM, renO, roSame, lh, born, AObj.born, AObj.live, injOk, kindOf, rens_ints, okIns_ints, List.range, List.range.loop, mrg, mset, rEncR, rEncC_rens, rEncC_okIns, rEncC_inj]
        · simp [ren, rens, sg, sig, okIn, okIns, exK, leK, leF, leV, matK, objM, renO, roSame, lh, born, AObj.born, AObj.live, injOk, kindOf, rens_ints, okIns_ints, List.range, List.range.loop, mrg, mset, rEncR, rEncC_rens, rEncC_okIns, rEncC_inj]
        simp only [rEncR]
        simp (maxSteps := 2000000) only [↓vP0, vQ0, vT0, simprocAttr]
        refine exitB_P ?_
        refine exit_of [10] (.tup [.slice 2 0 E.fin.length, .int .i64 0]) (pix2L p q ++ [.own (ints .u8 E.fin) 5]) ⟨rfl, rfl⟩ ?_ ?_ rfl ?_ ?_
        all_goals simp [ren, rens, sg, sig, okIn, okIns, exK, leK, leF, leV, matK, objM, renO, roSame, lh, born, AObj.born, AObj.live, injOk, kindOf, rens_ints, okIns_ints, List.range, List.range.loop, mrg, mset]

theorem c_p8Encode (t dx dy : Int) (hx : I64 dx) (hy : I64 dy) (ty : Bool) (kd w v w' v' : Int) (p q : List Int) (hpl : p.length ≤ 9223372036854775807) (hql : q.length ≤ 9223372036854775807) (hbp : ByOk p) (hbq : ByOk q) :
    LCall Try.prog 29 [optV t dx dy ty kd, bmV w v 0 p.length, bmV w' v' 1 q.length] (pix2L p q) fun r L =>
      r = .tup [.slice 2 0 (reCode t dx dy ty kd w v p w' v' q).length, .int .i64 (reErr t dx dy kd w v p w' v' q)] ∧ L = pix2L p q ++ [.own (ints .u8 (reCode t dx dy ty kd w v p w' v' q)) 5] := by
  have fail : ∀ a, reErr t dx dy kd w v p w' v' q = a → a ≠ 0 → reCode t dx dy ty kd w v p w' v' q = [] := fun a h h0 => by rw [reCode, if_pos (by rw [h]; exact h0)]
  refine lcall_of_vcB tyok Try.func29 rfl (by rfl) Try.results29 Try.ntmps29 ?_; intro C hD
  simp (maxSteps := 2000000) only [↓vP0, vQ0, vT0, simprocAttr]
  refine callK_pure (c_pRefValid t dx dy hx hy ty kd) rfl rfl ?_
  by_cases ho : OptOk t dx dy kd
  case neg =>
    have f1 : reErr t dx dy kd w v p w' v' q = 2 := by rw [reErr, if_pos ho]
    rw [fail 2 f1 (by omega), f1]
    simp (maxSteps := 2000000) only [↓vP0, vQ0, vT0, simprocAttr, dN ho]
    refine exitB_of [(5, .fr 0 [0])] ?_
    simp (maxSteps := 2000000) only [↓vP0, vQ0, vT0, simprocAttr]
    refine exit_of [5] (.tup [.slice 2 0 0, .int .i64 2]) (pix2L p q ++ [.own (ints .u8 []) 5]) ⟨rfl, rfl⟩ ?_ ?_ rfl ?_ ?_
    all_goals simp [ren, rens, sg, sig, okIn, okIns, exK, leK, leF, leV, matK, objM, renO, roSame, lh, born, AObj.born, AObj.live, injOk, kindOf, rens_ints, okIns_ints, List.range, List.range.loop, mrg, mset, ints_nil]
  case pos =>
    have hs0 : sizeN t = 513 ∨ sizeN t = 129 := by unfold sizeN; split <;> simp
    have hN := encNew_okZ ho.2.1 (n := (sizeN t).toNat) (by omega) (by omega)
    have hz := zeros_ok ho.2.1 (n := (sizeN t).toNat) (by omega)
    simp (maxSteps := 2000000) only [↓vP0, vQ0, vT0, simprocAttr, dT ho]
    refine callK_det (c_refModel t ho.1 (sizeN t).toNat (by omega) dx dy ty kd ho.2.1) [] ?_ ?_ ?_ rfl (by simp) ?_
    · simp [ren, rens, sg, sig, okIn, okIns, exK, leK, leF, leV, matK, objM, renO, roSame, lh, born, AObj.born, AObj.live, injOk, kindOf, rens_ints, okIns_ints, List.range, List.range.loop, mrg, mset]
    · simp [ren, rens, sg, sig, okIn, okIns, exK, leK, leF, leV, matK, objM, renO, roSame, lh, born, AObj.born, AObj.live, injOk, kindOf, rens_ints, okIns_ints, List.range, List.range.loop, mrg, mset]
    · simp [ren, rens, sg, sig, okIn, okIns, exK, leK, leF, leV, matK, objM, renO, roSame, lh, born, AObj.born, AObj.live, injOk, kindOf, rens_ints, okIns_ints, List.range, List.range.loop, mrg, mset]
    simp (maxSteps := 2000000) only [↓vP0, vQ0, vT0, simprocAttr]
    refine callK_det (c_pNewEncoder kd (zeros (sizeN t).toNat) hz) [5] ?_ ?_ ?_ rfl (by simp [zeros]) ?_
    · simp [ren, rens, sg, sig, okIn, okIns, exK, leK, leF, leV, matK, objM, renO, roSame, lh, born, AObj.born, AObj.live, injOk, kindOf, rens_ints, okIns_ints, List.range, List.range.loop, mrg, mset, zeros]
    · simp [ren, rens, sg, sig, okIn, okIns, exK, leK, leF, leV, matK, objM, renO, roSame, lh, born, AObj.born, AObj.live, injOk, kindOf, rens_ints, okIns_ints, List.range, List.range.loop, mrg, mset, zeros]
    · simp [ren, rens, sg, sig, okIn, okIns, exK, leK, leF, leV, matK, objM, renO, roSame, lh, born, AObj.born, AObj.live, injOk, kindOf, rens_ints, okIns_ints, List.range, List.range.loop, mrg, mset, zeros]
    simp (maxSteps := 2000000) only [↓vP0, vQ0, vT0, simprocAttr, pEncC_rens]
    cases hbr : (bmB w v p && bmB w' v' q) with
    | false =>
      have f1 : reErr t dx dy kd w v p w' v' q = 30 := by rw [reErr, if_neg (not_not_intro ho), hbr, if_pos rfl]
      have ha : askErr t dx dy kd (bmB w v p && bmB w' v' q) 0 (encNew kd (zeros (sizeN t).toNat)).st.length = 30 := by rw [askErr, if_neg (not_not_intro ho), hbr, if_pos rfl]
      have hc := c_p8PutErr (encNew kd (zeros (sizeN t).toNat)) 0 (by omega) t dx dy hx hy ty kd w v w' v' p q hpl hql (by simp [encNew, zeros]; omega) (by rw [ha]; omega)
      rw [ha] at hc
      rw [fail 30 f1 (by omega), f1]
      refine callK_read (hc) [6, 7, 8, 0, 1] ?_ ?_ ?_ rfl ?_
      · simp [ren, rens, sg, sig, okIn, okIns, exK, leK, leF, leV, matK, objM, renO, roSame, lh, born, AObj.born, AObj.live, injOk, kindOf, rens_ints, okIns_ints, List.range, List.range.loop, mrg, mset, pEncL, pEncC_rens, pEncC_okIns, pEncC_inj, encNew, ints_nil]
      · simp [ren, rens, sg, sig, okIn, okIns, exK, leK, leF, leV, matK, objM, renO, roSame, lh, born, AObj.born, AObj.live, injOk, kindOf, rens_ints, okIns_ints, List.range, List.range.loop, mrg, mset, pEncL, pEncC_rens, pEncC_okIns, pEncC_inj, encNew, ints_nil]
      · simp [ren, rens, sg, sig, okIn, okIns, exK, leK, leF, leV, matK, objM, renO, roSame, lh, born, AObj.born, AObj.live, injOk, kindOf, rens_ints, okIns_ints, List.range, List.range.loop, mrg, mset, pEncL, pEncC_rens, pEncC_okIns, pEncC_inj, encNew, ints_nil]
      simp (maxSteps := 2000000) only [↓vP0, vQ0, vT0, simprocAttr]
      refine exitB_of [(5, .fr 0 [0])] ?_
      simp (maxSteps := 2000000) only [↓vP0, vQ0, vT0, simprocAttr]
      refine exit_of [9] (.tup [.slice 2 0 0, .int .i64 30]) (pix2L p q ++ [.own (ints .u8 []) 5]) ⟨rfl, rfl⟩ ?_ ?_ rfl ?_ ?_
      all_goals simp [ren, rens, sg, sig, okIn, okIns, exK, leK, leF, leV, matK, objM, renO, roSame, lh, born, AObj.born, AObj.live, injOk, kindOf, rens_ints, okIns_ints, List.range, List.range.loop, mrg, mset, ints_nil]
    | true =>
      have hbr' := hbr
      rw [Bool.and_eq_true] at hbr'
      obtain ⟨hb1, hr1⟩ := hbr'
      obtain ⟨hb, hp⟩ := bmB_ok hbp hb1
      obtain ⟨hr, hq⟩ := bmB_ok hbq hr1
      have f1 : reErr t dx dy kd w v p w' v' q = 0 := by rw [reErr, if_neg (not_not_intro ho), hbr, if_neg (by simp)]
      have f2 : reCode t dx dy ty kd w v p w' v' q = (reAll t dx dy ty kd w v p w' v' q).fin := by rw [reCode, if_neg (by rw [f1]; simp)]
      rw [f1, f2]
      obtain ⟨k1, k2, k3, _⟩ := reAll_ok (ty := ty) (w' := w') (v' := v') ho hb hp hq
      have hre : reAll t dx dy ty kd w v p w' v' q = encAll (encNew kd (zeros (sizeN t).toNat)) (mv 0 (refEv t dx dy ty w v p w' v' q)) := by rw [mv_zero]; rfl
      generalize hE : reAll t dx dy ty kd w v p w' v' q = E at *
      refine callK_det (c_p8Put (encNew kd (zeros (sizeN t).toNat)) hN 0 t dx dy ty kd ho w v w' v' p q hb hr hp hq hb1 hr1 (by simp [encNew, zeros]; omega) (by simp [encNew, zeros]; omega) (by simp [encNew]) E hre) [6, 7, 8, 0, 1] ?_ ?_ ?_ rfl (by simp [pEncL, pEncC_rens, pEncC_okIns, pEncC_inj, encNew, ints_nil]) ?_
      · simp [ren, rens, sg, sig, okIn, okIns, exK, leK, leF, leV, matK, objM, renO, roSame, lh, born, AObj.born, AObj.live, injOk, kindOf, rens_ints, okIns_ints, List.range, List.range.loop, mrg, mset, pEncL, pEncC_rens, pEncC_okIns, pEncC_inj, encNew, ints_nil]
      · simp [ren, rens, sg, sig, okIn, okIns, exK, leK, leF, leV, matK, objM, renO, roSame, lh, born, AObj.born, AObj.live, injOk, kindOf, rens_ints, okIns_ints, List.range, List.range.loop, mrg, mset, pEncL, pEncC_rens, pEncC_okIns, pEncC_inj, encNew, ints_nil]
      · simp [ren, rens, sg, sig, okIn, okIns, exK, leK, leF, leV, matK, objM, renO, roSame, lh, born, AObj.born, AObj.live, injOk, kindOf, rens_ints, okIns_ints, List.range, List.range.loop, mrg, mset, pEncL, pEncC_rens, pEncC_okIns, pEncC_inj, encNew, ints_nil]
      simp only [pEncL]
      simp (maxSteps := 2000000) only [↓vP0, vQ0, vT0, simprocAttr, pEncC_rens]
      refine callK_det (c_pEnd E k1 (by omega)) [6, 7, 9] ?_ ?_ ?_ rfl (by simp [pEncR, pEncC_rens, pEncC_okIns, pEncC_inj]) ?_
      · simp [ren, rens, sg, sig, okIn, okIns, exK, leK, leF, leV, matK, objM, renO, roSame, lh, born, AObj.born, AObj.live, injOk, kindOf, rens_ints, okIns_ints, List.range, List.range.loop, mrg, mset, pEncR, pEncC_rens, pEncC_okIns, pEncC_inj]
      · simp [ren, rens, sg, sig, okIn, okIns, exK, leK, leF, leV, matK, objM, renO, roSame, lh, born, AObj.born, AObj.live, injOk, kindOf, rens_ints, okIns_ints, List.range, List.range.loop, mrg, mset, pEncR, pEncC_rens, pEncC_okIns, pEncC_inj]
      · simp [ren, rens, sg, sig, okIn, okIns, exK, leK, leF, leV, matK, objM, renO, roSame, lh, born, AObj.born, AObj.live, injOk, kindOf, rens_ints, okIns_ints, List.range, List.range.loop, mrg, mset, pEncR, pEncC_rens, pEncC_okIns, pEncC_inj]
      simp only [pEncR]
      simp (maxSteps := 2000000) only [↓vP0, vQ0, vT0, simprocAttr]
      refine exitB_P ?_
      refine exit_of [10] (.tup [.slice 2 0 E.fin.length, .int .i64 0]) (pix2L p q ++ [.own (ints .u8 E.fin) 5]) ⟨rfl, rfl⟩ ?_ ?_ rfl ?_ ?_
      all_goals simp [ren, rens, sg, sig, okIn, okIns, exK, leK, leF, leV, matK, objM, renO, roSame, lh, born, AObj.born, AObj.live, injOk, kindOf, rens_ints, okIns_ints, List.range, List.range.loop, mrg, mset]
end Go.Proofs.Ytbfefpkhalegmaa

set_option linter.unusedVariables false
set_option linter.unusedSimpArgs false
namespace Go.Proofs.Ytbfefpkhalegmaa
open Go
set_option maxHeartbeats 4000000
set_option maxRecDepth 20000

abbrev dec0 (t kd : Int) (code : List Int) : Dec := decNew kd (zeros (sizeN t).toNat) code
abbrev cqL (code q : List Int) : List AObj := [.ro (ints .u8 code) 5, .ro (ints .u8 q) 5]
theorem g_fail {t dx dy : Int} {ty : Bool} {kd base w v w' v' : Int} {q : List Int} {d : Dec} {a : Int} (h : gAsk t dx dy kd base w v w' v' q d = a) (h0 : a ≠ 0) :
    gE t dx dy ty kd base w v w' v' q d = a ∧ gP t dx dy ty kd base w v w' v' q d = [] ∧ gW t dx dy ty kd base w v w' v' q d = 0 ∧ gV t dx dy ty kd base w v w' v' q d = 0 ∧ gD t dx dy ty kd base w v w' v' q d = d := by
  have e : gE t dx dy ty kd base w v w' v' q d = a := by rw [gE, if_pos (by rw [h]; exact h0), h]
  exact ⟨e, by rw [gP, if_pos (by rw [e]; exact h0)], by rw [gW, if_pos (by rw [e]; exact h0)], by rw [gV, if_pos (by rw [e]; exact h0)], by rw [gD, if_pos (by rw [h]; exact h0)]⟩
theorem dec0_ok {t kd : Int} {code : List Int} (hk : KdOk kd) (hby : ByOk code) : (dec0 t kd code).Ok ∧ (dec0 t kd code).st.length = (sizeN t).toNat ∧ StsOk kd (zeros (sizeN t).toNat) := by
  have hs0 : sizeN t = 513 ∨ sizeN t = 129 := by unfold sizeN; split <;> simp
  have hz := zeros_ok hk (n := (sizeN t).toNat) (by omega)
  exact ⟨decNew_ok hz hby, by simp [decNew, zeros], hz⟩

theorem c_p8Decode (t dx dy : Int) (hx : I64 dx) (hy : I64 dy) (ty : Bool) (kd : Int) (code : List Int) (hbc : ByOk code) (hcl : code.length ≤ 1099511627776) (w v w' v' : Int) (q : List Int) (hql : q.length ≤ 9223372036854775807) (hby : ByOk q) :
    LCall Try.prog 32 [optV t dx dy ty kd, .slice 0 0 code.length, .int .i64 w, .int .i64 v, bmV w' v' 1 q.length] (cqL code q) fun r L =>
      r = .tup [bmV (gW t dx dy ty kd 0 w v w' v' q (dec0 t kd code)) (gV t dx dy ty kd 0 w v w' v' q (dec0 t kd code)) 2 (gP t dx dy ty kd 0 w v w' v' q (dec0 t kd code)).length, .int .i64 (gE t dx dy ty kd 0 w v w' v' q (dec0 t kd code))] ∧
      L = cqL code q ++ [.own (ints .u8 (gP t dx dy ty kd 0 w v w' v' q (dec0 t kd code))) 5] := by
  refine lcall_of_vcB tyok Try.func32 rfl (by rfl) Try.results32 Try.ntmps32 ?_; intro C hD
  simp (maxSteps := 2000000) only [↓vP0, vQ0, vT0, simprocAttr]
  refine callK_pure (c_pRefValid t dx dy hx hy ty kd) rfl rfl ?_
  by_cases ho : OptOk t dx dy kd
  case neg =>
    obtain ⟨f1, f2, f3, f4, f5⟩ := g_fail (ty := ty) (d := dec0 t kd code) (show gAsk t dx dy kd 0 w v w' v' q (dec0 t kd code) = 2 by rw [gAsk, askErr, if_pos ho]) (by omega)
    rw [f1, f2, f3, f4]
    simp (maxSteps := 2000000) only [↓vP0, vQ0, vT0, simprocAttr, dN ho]
    refine exitB_of [(5, .fr 0 [0, 2])] ?_
    simp (maxSteps := 2000000) only [↓vP0, vQ0, vT0, simprocAttr]
    refine exit_of [5] (.tup [bmV 0 0 2 0, .int .i64 2]) (cqL code q ++ [.own (ints .u8 []) 5]) ⟨rfl, rfl⟩ ?_ ?_ rfl ?_ ?_
    all_goals simp [ren, rens, sg, sig, okIn, okIns, exK, leK, leF, leV, matK, objM, renO, roSame, lh, born, AObj.born, AObj.live, injOk, kindOf, rens_ints, okIns_ints, List.range, List.range.loop, mrg, mset, ints_nil]
  case pos =>
    have hs0 : sizeN t = 513 ∨ sizeN t = 129 := by unfold sizeN; split <;> simp
    obtain ⟨hd0, hdl, hz⟩ := dec0_ok (t := t) (code := code) ho.2.1 hbc
    have hdc : (dec0 t kd code).code = code := rfl
    have hds : (dec0 t kd code).st = zeros (sizeN t).toNat := rfl
    simp (maxSteps := 2000000) only [↓vP0, vQ0, vT0, simprocAttr, dT ho]
    refine callK_det (c_refModel t ho.1 (sizeN t).toNat (by omega) dx dy ty kd ho.2.1) [] ?_ ?_ ?_ rfl (by simp) ?_
    · simp [ren, rens, sg, sig, okIn, okIns, exK, leK, leF, leV, matK, objM, renO, roSame, lh, born, AObj.born, AObj.live, injOk, kindOf, rens_ints, okIns_ints, List.range, List.range.loop, mrg, mset]
    · simp [ren, rens, sg, sig, okIn, okIns, exK, leK, leF, leV, matK, objM, renO, roSame, lh, born, AObj.born, AObj.live, injOk, kindOf, rens_ints, okIns_ints, List.range, List.range.loop, mrg, mset]
    · simp [ren, rens, sg, sig, okIn, okIns, exK, leK, leF, leV, matK, objM, renO, roSame, lh, born, AObj.born, AObj.live, injOk, kindOf, rens_ints, okIns_ints, List.range, List.range.loop, mrg, mset]
    simp (maxSteps := 2000000) only [↓vP0, vQ0, vT0, simprocAttr]
    refine callK_det (c_pNewDecoder kd (zeros (sizeN t).toNat) code hz hbc hcl) [5, 0] ?_ ?_ ?_ rfl (by simp [zeros]) ?_
    · simp [ren, rens, sg, sig, okIn, okIns, exK, leK, leF, leV, matK, objM, renO, roSame, lh, born, AObj.born, AObj.live, injOk, kindOf, rens_ints, okIns_ints, List.range, List.range.loop, mrg, mset, zeros]
    · simp [ren, rens, sg, sig, okIn, okIns, exK, leK, leF, leV, matK, objM, renO, roSame, lh, born, AObj.born, AObj.live, injOk, kindOf, rens_ints, okIns_ints, List.range, List.range.loop, mrg, mset, zeros]
    · simp [ren, rens, sg, sig, okIn, okIns, exK, leK, leF, leV, matK, objM, renO, roSame, lh, born, AObj.born, AObj.live, injOk, kindOf, rens_ints, okIns_ints, List.range, List.range.loop, mrg, mset, zeros]
    simp (maxSteps := 2000000) only [↓vP0, vQ0, vT0, simprocAttr, pDecC_rens]
    have hdd : decNew kd (zeros (sizeN t).toNat) code = dec0 t kd code := rfl
    rw [hdd]
    generalize dec0 t kd code = D at *
    refine callK_det (c_p8Get D hd0 (by omega) (by rw [hdc]; exact hcl) 0 (by omega) t dx dy hx hy ty kd w v w' v' q hql hby) [6, 7, 8, 1] ?_ ?_ ?_ rfl (by simp [getL, pDecL, pDecC_rens, pDecC_okIns, pDecC_inj, hdc, hds]) ?_
    · simp [ren, rens, sg, sig, okIn, okIns, exK, leK, leF, leV, matK, objM, renO, roSame, lh, born, AObj.born, AObj.live, injOk, kindOf, rens_ints, okIns_ints, List.range, List.range.loop, mrg, mset, getL, pDecL, pDecC_rens, pDecC_okIns, pDecC_inj, hdc, hds]
    · simp [ren, rens, sg, sig, okIn, okIns, exK, leK, leF, leV, matK, objM, renO, roSame, lh, born, AObj.born, AObj.live, injOk, kindOf, rens_ints, okIns_ints, List.range, List.range.loop, mrg, mset, getL, pDecL, pDecC_rens, pDecC_okIns, pDecC_inj, hdc, hds]
    · simp [ren, rens, sg, sig, okIn, okIns, exK, leK, leF, leV, matK, objM, renO, roSame, lh, born, AObj.born, AObj.live, injOk, kindOf, rens_ints, okIns_ints, List.range, List.range.loop, mrg, mset, getL, pDecL, pDecC_rens, pDecC_okIns, pDecC_inj, hdc, hds]
    simp only [getL, pDecL]
    simp (maxSteps := 2000000) only [↓vP0, vQ0, vT0, simprocAttr, pDecC_rens]
    refine exitB_P ?_
    refine exit_of [9] (.tup [bmV (gW t dx dy ty kd 0 w v w' v' q D) (gV t dx dy ty kd 0 w v w' v' q D) 2 (gP t dx dy ty kd 0 w v w' v' q D).length, .int .i64 (gE t dx dy ty kd 0 w v w' v' q D)]) (cqL code q ++ [.own (ints .u8 (gP t dx dy ty kd 0 w v w' v' q D)) 5]) ⟨rfl, rfl⟩ ?_ ?_ rfl ?_ ?_
    all_goals simp [ren, rens, sg, sig, okIn, okIns, exK, leK, leF, leV, matK, objM, renO, roSame, lh, born, AObj.born, AObj.live, injOk, kindOf, rens_ints, okIns_ints, List.range, List.range.loop, mrg, mset]

theorem c_r8Decode (t dx dy : Int) (ty : Bool) (kd : Int) (code : List Int) (hbc : ByOk code) (hcl : code.length ≤ 1099511627776) (w v w' v' : Int) (q : List Int) (hql : q.length ≤ 9223372036854775807) (hby : ByOk q) :
    LCall Try.prog 33 [optV t dx dy ty kd, .slice 0 0 code.length, .int .i64 w, .int .i64 v, bmV w' v' 1 q.length] (cqL code q) fun r L =>
      r = .tup [bmV (gW t dx dy ty kd 0 w v w' v' q (dec0 t kd code)) (gV t dx dy ty kd 0 w v w' v' q (dec0 t kd code)) 2 (gP t dx dy ty kd 0 w v w' v' q (dec0 t kd code)).length, .int .i64 (gE t dx dy ty kd 0 w v w' v' q (dec0 t kd code))] ∧
      L = cqL code q ++ [.own (ints .u8 (gP t dx dy ty kd 0 w v w' v' q (dec0 t kd code))) 5] := by
  refine lcall_of_vcB tyok Try.func33 rfl (by rfl) Try.results33 Try.ntmps33 ?_; intro C hD
  simp (maxSteps := 2000000) only [↓vP0, vQ0, vT0, simprocAttr]
  refine callK_pure (c_rRefValid t dx dy ty kd) rfl rfl ?_
  by_cases ho : OptOk t dx dy kd
  case neg =>
    obtain ⟨f1, f2, f3, f4, f5⟩ := g_fail (ty := ty) (d := dec0 t kd code) (show gAsk t dx dy kd 0 w v w' v' q (dec0 t kd code) = 2 by rw [gAsk, askErr, if_pos ho]) (by omega)
    rw [f1, f2, f3, f4]
    simp (maxSteps := 2000000) only [↓vP0, vQ0, vT0, simprocAttr, dN ho]
    refine exitB_of [(5, .fr 0 [0, 2])] ?_
    simp (maxSteps := 2000000) only [↓vP0, vQ0, vT0, simprocAttr]
    refine exit_of [5] (.tup [bmV 0 0 2 0, .int .i64 2]) (cqL code q ++ [.own (ints .u8 []) 5]) ⟨rfl, rfl⟩ ?_ ?_ rfl ?_ ?_
    all_goals simp [ren, rens, sg, sig, okIn, okIns, exK, leK, leF, leV, matK, objM, renO, roSame, lh, born, AObj.born, AObj.live, injOk, kindOf, rens_ints, okIns_ints, List.range, List.range.loop, mrg, mset, ints_nil]
  case pos =>
    have hs0 : sizeN t = 513 ∨ sizeN t = 129 := by unfold sizeN; split <;> simp
    obtain ⟨hd0, hdl, hz⟩ := dec0_ok (t := t) (code := code) ho.2.1 hbc
    have hdc : (dec0 t kd code).code = code := rfl
    have hds : (dec0 t kd code).st = zeros (sizeN t).toNat := rfl
    have bad : (sizeB w v && bmB w' v' q) = false → gAsk t dx dy kd 0 w v w' v' q (dec0 t kd code) = 30 := fun h => by rw [gAsk, askErr, if_neg (not_not_intro ho), h, if_pos rfl]
    simp (maxSteps := 2000000) only [↓vP0, vQ0, vT0, simprocAttr, dT ho]
    refine callK_pure (c_rIsSize w v) rfl rfl ?_
    cases hsb : sizeB w v with
    | false =>
      obtain ⟨f1, f2, f3, f4, f5⟩ := g_fail (ty := ty) (d := dec0 t kd code) (bad (by rw [hsb, Bool.false_and])) (by omega)
      rw [f1, f2, f3, f4]
      simp (maxSteps := 2000000) only [↓vP0, vQ0, vT0, simprocAttr]
      refine exitB_of [(5, .fr 0 [0, 2])] ?_
      simp (maxSteps := 2000000) only [↓vP0, vQ0, vT0, simprocAttr]
      refine exit_of [5] (.tup [bmV 0 0 2 0, .int .i64 30]) (cqL code q ++ [.own (ints .u8 []) 5]) ⟨rfl, rfl⟩ ?_ ?_ rfl ?_ ?_
      all_goals simp [ren, rens, sg, sig, okIn, okIns, exK, leK, leF, leV, matK, objM, renO, roSame, lh, born, AObj.born, AObj.live, injOk, kindOf, rens_ints, okIns_ints, List.range, List.range.loop, mrg, mset, ints_nil]
    | true =>
      simp (maxSteps := 2000000) only [↓vP0, vQ0, vT0, simprocAttr]
      refine callK_read (c_rIsBitmap w' v' q hql) [1] ?_ ?_ ?_ rfl ?_
      · simp [ren, rens, sg, sig, okIn, okIns, exK, leK, leF, leV, matK, objM, renO, roSame, lh, born, AObj.born, AObj.live, injOk, kindOf, rens_ints, okIns_ints, List.range, List.range.loop, mrg, mset]
      · simp [ren, rens, sg, sig, okIn, okIns, exK, leK, leF, leV, matK, objM, renO, roSame, lh, born, AObj.born, AObj.live, injOk, kindOf, rens_ints, okIns_ints, List.range, List.range.loop, mrg, mset]
      · simp [ren, rens, sg, sig, okIn, okIns, exK, leK, leF, leV, matK, objM, renO, roSame, lh, born, AObj.born, AObj.live, injOk, kindOf, rens_ints, okIns_ints, List.range, List.range.loop, mrg, mset]
      cases hr1 : bmB w' v' q with
      | false =>
        obtain ⟨f1, f2, f3, f4, f5⟩ := g_fail (ty := ty) (d := dec0 t kd code) (bad (by rw [hr1, Bool.and_false])) (by omega)
        rw [f1, f2, f3, f4]
        simp (maxSteps := 2000000) only [↓vP0, vQ0, vT0, simprocAttr]
        refine exitB_of [(5, .fr 0 [0, 2])] ?_
        simp (maxSteps := 2000000) only [↓vP0, vQ0, vT0, simprocAttr]
        refine exit_of [5] (.tup [bmV 0 0 2 0, .int .i64 30]) (cqL code q ++ [.own (ints .u8 []) 5]) ⟨rfl, rfl⟩ ?_ ?_ rfl ?_ ?_
        all_goals simp [ren, rens, sg, sig, okIn, okIns, exK, leK, leF, leV, matK, objM, renO, roSame, lh, born, AObj.born, AObj.live, injOk, kindOf, rens_ints, okIns_ints, List.range, List.range.loop, mrg, mset, ints_nil]
      | true =>
        clear bad
        simp (maxSteps := 2000000) only [↓vP0, vQ0, vT0, simprocAttr]
        refine callK_det (c_rFresh t (sizeN t).toNat (by rw [Int.toNat_of_nonneg (by omega)]; rfl) (by omega) dx dy ty kd) [] ?_ ?_ ?_ rfl (by simp) ?_
        · simp [ren, rens, sg, sig, okIn, okIns, exK, leK, leF, leV, matK, objM, renO, roSame, lh, born, AObj.born, AObj.live, injOk, kindOf, rens_ints, okIns_ints, List.range, List.range.loop, mrg, mset]
        · simp [ren, rens, sg, sig, okIn, okIns, exK, leK, leF, leV, matK, objM, renO, roSame, lh, born, AObj.born, AObj.live, injOk, kindOf, rens_ints, okIns_ints, List.range, List.range.loop, mrg, mset]
        · simp [ren, rens, sg, sig, okIn, okIns, exK, leK, leF, leV, matK, objM, renO, roSame, lh, born, AObj.born, AObj.live, injOk, kindOf, rens_ints, okIns_ints, List.range, List.range.loop, mrg, mset]
        simp (maxSteps := 2000000) only [↓vP0, vQ0, vT0, simprocAttr]
        refine callK_det (c_rNewDecoder kd (zeros (sizeN t).toNat) code hz hbc hcl) [5, 0] ?_ ?_ ?_ rfl (by simp [zeros]) ?_
        · simp [ren, rens, sg, sig, okIn, okIns, exK, leK, leF, leV, matK, objM, renO, roSame, lh, born, AObj.born, AObj.live, injOk, kindOf, rens_ints, okIns_ints, List.range, List.range.loop, mrg, mset, zeros]
        · simp [ren, rens, sg, sig, okIn, okIns, exK, leK, leF, leV, matK, objM, renO, roSame, lh, born, AObj.born, AObj.live, injOk, kindOf, rens_ints, okIns_ints, List.range, List.range.loop, mrg, mset, zeros]
        · simp [ren, rens, sg, sig, okIn, okIns, exK, leK, leF, leV, matK, objM, renO, roSame, lh, born, AObj.born, AObj.live, injOk, kindOf, rens_ints, okIns_ints, List.range, List.range.loop, mrg, mset, zeros]
        simp (maxSteps := 2000000) only [↓vP0, vQ0, vT0, simprocAttr, rDecC_rens]
        have hdd : decNew kd (zeros (sizeN t).toNat) code = dec0 t kd code := rfl
        rw [hdd]
        generalize dec0 t kd code = D at *
        refine callK_det (c_r8Get D hd0 (by omega) (by rw [hdc]; exact hcl) 0 t dx dy ty kd w v w' v' q hql hby) [6, 7, 8, 1] ?_ ?_ ?_ rfl (by simp [rDecL, rDecC_rens, rDecC_okIns, rDecC_inj, hdc, hds]) ?_
        · simp [ren, rens, sg, sig, okIn, okIns, exK, leK, leF, leV, matK, objM, renO, roSame, lh, born, AObj.born, AObj.live, injOk, kindOf, rens_ints, okIns_ints, List.range, List.range.loop, mrg, mset, rDecL, rDecC_rens, rDecC_okIns, rDecC_inj, hdc, hds]
        · simp [ren, rens, sg, sig, okIn, okIns, exK, leK, leF, leV, matK, objM, renO, roSame, lh, born, AObj.born, AObj.live, injOk, kindOf, rens_ints, okIns_ints, List.range, List.range.loop, mrg, mset, rDecL, rDecC_rens, rDecC_okIns, rDecC_inj, hdc, hds]
        · simp [ren, rens, sg, sig, okIn, okIns, exK, leK, leF, leV, matK, objM, renO, roSame, lh, born, AObj.born, AObj.live, injOk, kindOf, rens_ints, okIns_ints, List.range, List.range.loop, mrg, mset, rDecL, rDecC_rens, rDecC_okIns, rDecC_inj, hdc, hds]
        simp only [rDecL]
        simp (maxSteps := 2000000) only [↓vP0, vQ0, vT0, simprocAttr, rDecC_rens]
        refine exitB_P ?_
        refine exit_of [9] (.tup [bmV (gW t dx dy ty kd 0 w v w' v' q D) (gV t dx dy ty kd 0 w v w' v' q D) 2 (gP t dx dy ty kd 0 w v w' v' q D).length, .int .i64 (gE t dx dy ty kd 0 w v w' v' q D)]) (cqL code q ++ [.own (ints .u8 (gP t dx dy ty kd 0 w v w' v' q D)) 5]) ⟨rfl, rfl⟩ ?_ ?_ rfl ?_ ?_
        all_goals simp [ren, rens, sg, sig, okIn, okIns, exK, leK, leF, leV, matK, objM, renO, roSame, lh, born, AObj.born, AObj.live, injOk, kindOf, rens_ints, okIns_ints, List.range, List.range.loop, mrg, mset]
end Go.Proofs.Ytbfefpkhalegmaa
