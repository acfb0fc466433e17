/- Contracts of the program's encoder. -/
import Derived.Test.YtbfefpkhalegmaaC1

set_option linter.unusedVariables false
set_option linter.unusedSimpArgs false
namespace Go.Proofs.Ytbfefpkhalegmaa
open Go
set_option maxHeartbeats 4000000
set_option maxRecDepth 20000

theorem set_tab (a b lo hi : AV) : setCells [a, b, .int .i64 0, .int .i64 0, .int .i64 0, .int .i64 0, .int .i64 0, .int .i64 0, .int .i64 0, .int .i64 0, .int .i64 0, .int .i64 0, .int .i64 0, .int .i64 0, .int .i64 0, .int .i64 0, .int .i64 0, .int .i64 0, .int .i64 0, .int .i64 0, .int .i64 0, .int .i64 0, .int .i64 0, .int .i64 0, .int .i64 0, .int .i64 0, .int .i64 0, .int .i64 0, .int .i64 0, .int .i64 0, .int .i64 0, .int .i64 0, .int .i64 0, .int .i64 0, lo, hi] 2 tabV = a :: b :: (tabV ++ [lo, hi]) := by
  simp [tabV, ints, setCells]
theorem set_tab2 (a b lo hi lo' hi' : AV) : setCells [a, b, .int .i64 0, .int .i64 0, .int .i64 0, .int .i64 0, .int .i64 0, .int .i64 0, .int .i64 0, .int .i64 0, .int .i64 0, .int .i64 0, .int .i64 0, .int .i64 0, .int .i64 0, .int .i64 0, .int .i64 0, .int .i64 0, .int .i64 0, .int .i64 0, .int .i64 0, .int .i64 0, .int .i64 0, .int .i64 0, .int .i64 0, .int .i64 0, .int .i64 0, .int .i64 0, .int .i64 0, .int .i64 0, .int .i64 0, .int .i64 0, .int .i64 0, .int .i64 0, lo, hi] 2 (tabV ++ [lo', hi']) = a :: b :: (tabV ++ [lo', hi']) := by
  simp [tabV, ints, setCells]
theorem tab_cell1 (r : List AV) : (tabV ++ r).all AV.cell1 = r.all AV.cell1 := by simp [tabV, ints, AV.cell1]

theorem tab_take34 (a b : AV) : (tabV ++ [a, b]).take 34 = tabV ++ [a, b] := by simp [tabV, ints]
theorem tab_len (r : List AV) : (tabV ++ r).length = 32 + r.length := by simp [tabV_length]
theorem tab_s1 (r : List AV) (v : AV) : (tabV ++ r).set 33 v = tabV ++ r.set 1 v := by simp [tabV, ints]
theorem setCells_eq : ∀ (vs cs : List AV) (off : Nat), off + vs.length ≤ cs.length → setCells cs off vs = cs.take off ++ vs ++ cs.drop (off + vs.length)
  | [], cs, off, h => by simp [setCells]
  | v :: vs, cs, off, h => by
    simp only [List.length_cons] at h
    rw [setCells_cons, setCells_eq vs (cs.set off v) (off + 1) (by simp; omega)]
    have e : cs.set off v = cs.take off ++ v :: cs.drop (off + 1) := by
      rw [List.set_eq_take_append_cons_drop, if_pos (by omega)]
    have h1 : (cs.take off).length = off := by simp; omega
    have h2 : (cs.set off v).take (off + 1) = cs.take off ++ [v] := by
      rw [e, List.take_append, List.take_of_length_le (by omega), h1]
      simp
    have h3 : (cs.set off v).drop (off + 1 + vs.length) = cs.drop (off + (vs.length + 1)) := by
      rw [List.drop_set_of_lt (by omega)]; congr 1; omega
    rw [h2, h3]
    simp
theorem ivC_put (zs : List AV) (kd : Int) (s n : Nat) (lo hi : Int) (h : 36 ≤ zs.length) : setCells zs 0 (ivC kd s n lo hi []) = ivC kd s n lo hi (zs.drop 36) := by
  have hl := ivC_len kd s n lo hi []
  rw [setCells_eq _ _ _ (by rw [hl]; simpa using h), hl]
  simp [ivC]

theorem c_begin (kd : Int) (st : List Int) (hl : st.length ≤ 10000) : LCall Try.prog 82 [.agg [.int .i64 kd, .slice 0 0 st.length]] [.ro (ints .i64 st) 3] fun r L =>
    r = .agg (ivC kd 1 st.length 0 4294967295 []) ∧ L = [.ro (ints .i64 st) 3, .own (ints .i64 st) 3] := by
  refine lcall_of_vc tyok Try.func82 rfl (by rfl) Try.results82 Try.ntmps82 ?_; intro C hD
  simp (maxSteps := 2000000) only [↓vP0, vQ0, vT0, simprocAttr]
  refine callK_of (c_pClone kd st hl) [0] ?_ ?_ ?_ rfl ⟨_, _, by simp, rfl, rfl⟩ ?_
  · simp [ren, rens, sg, sig, okIn, okIns, exK, leK, leF, leV, matK, objM, renO, roSame, lh, born, AObj.born, AObj.live, injOk, kindOf, rens_ints, okIns_ints, List.range, List.range.loop, mrg, mset]
  · simp [ren, rens, sg, sig, okIn, okIns, exK, leK, leF, leV, matK, objM, renO, roSame, lh, born, AObj.born, AObj.live, injOk, kindOf, rens_ints, okIns_ints, List.range, List.range.loop, mrg, mset]
  · simp [ren, rens, sg, sig, okIn, okIns, exK, leK, leF, leV, matK, objM, renO, roSame, lh, born, AObj.born, AObj.live, injOk, kindOf, rens_ints, okIns_ints, List.range, List.range.loop, mrg, mset]
  rintro r L0' _ ⟨rfl, rfl⟩
  simp (maxSteps := 2000000) only [↓vP0, vQ0, vT0, simprocAttr]
  refine callK_pure c_chances rfl (by simp only [plainV, tabV_plain]) ?_
  simp (maxSteps := 2000000) only [↓vP0, vQ0, vT0, simprocAttr, set_tab, set_tab2, tab_len, tab_s1, tab_cell1, tabV_length, tabV_cell1]
  rw [tab_take34]
  refine exit_of [3] (.agg (ivC kd 1 st.length 0 4294967295 [])) [.ro (ints .i64 st) 3, .own (ints .i64 st) 3] ⟨rfl, rfl⟩ ?_ ?_ rfl ?_ ?_
  · rw [ren_agg, ivC_rens]; rfl
  · simp only [okIn, ivC_okIns]; simp [ren, rens, sg, sig, okIn, okIns, exK, leK, leF, leV, matK, objM, renO, roSame, lh, born, AObj.born, AObj.live, injOk, kindOf, rens_ints, okIns_ints, List.range, List.range.loop, mrg, mset]
  · simp [ren, rens, sg, sig, okIn, okIns, exK, leK, leF, leV, matK, objM, renO, roSame, lh, born, AObj.born, AObj.live, injOk, kindOf, rens_ints, okIns_ints, List.range, List.range.loop, mrg, mset]
  · simp [ren, rens, sg, sig, okIn, okIns, exK, leK, leF, leV, matK, objM, renO, roSame, lh, born, AObj.born, AObj.live, injOk, kindOf, rens_ints, okIns_ints, List.range, List.range.loop, mrg, mset]


/-- The encoder's cells; its states are object s, its code is object k. -/
def pEncC (e : Enc) (s k : Nat) : List AV := ivC e.kd s e.st.length e.lo e.hi [.slice k 0 e.out.length, .bool true]
theorem pEncC_rens (σ : Nat → Nat) (e : Enc) (s k : Nat) : rens σ (pEncC e s k) = pEncC e (σ s) (σ k) := by simp [pEncC, ivC_rens, rens, ren]
theorem pEncC_okIns (B : Nat → Prop) (e : Enc) (s k : Nat) : okIns B (pEncC e s k) = (B s ∧ B k) := by simp [pEncC, ivC_okIns, okIns, okIn]
theorem pEncC_inj (e : Enc) (s k s' k' : Nat) : (pEncC e s k = pEncC e s' k') = (s = s' ∧ k = k') := by simp [pEncC, ivC_inj]
def pEncL (e : Enc) : List AObj := [.own (pEncC e 1 2) 126, .own (ints .i64 e.st) 3, .own (ints .u8 e.out) 5]
def pEncM (e : Enc) : List AObj := [.own (pEncC e 1 3) 126, .own (ints .i64 e.st) 3, .dead, .own (ints .u8 e.out) 5]

theorem c_pNewEncoder (kd : Int) (st : List Int) (h : StsOk kd st) : LCall Try.prog 36 [.agg [.int .i64 kd, .slice 0 0 st.length]] [.ro (ints .i64 st) 3] fun r L =>
    r = .tup [.ptr 1 0, .int .i64 0] ∧ L = [.ro (ints .i64 st) 3, .own (pEncC (encNew kd st) 2 3) 126, .own (ints .i64 st) 3, .own [] 5] := by
  have hl := h.2.1
  refine lcall_of_vcB tyok Try.func36 rfl (by rfl) Try.results36 Try.ntmps36 ?_; intro C hD
  simp (maxSteps := 2000000) only [↓vP0, vQ0, vT0, simprocAttr]
  refine callK_read (c_pValid kd st h) [0] ?_ ?_ ?_ rfl ?_
  · simp [ren, rens, sg, sig, okIn, okIns, exK, leK, leF, leV, matK, objM, renO, roSame, lh, born, AObj.born, AObj.live, injOk, kindOf, rens_ints, okIns_ints, List.range, List.range.loop, mrg, mset]
  · simp [ren, rens, sg, sig, okIn, okIns, exK, leK, leF, leV, matK, objM, renO, roSame, lh, born, AObj.born, AObj.live, injOk, kindOf, rens_ints, okIns_ints, List.range, List.range.loop, mrg, mset]
  · simp [ren, rens, sg, sig, okIn, okIns, exK, leK, leF, leV, matK, objM, renO, roSame, lh, born, AObj.born, AObj.live, injOk, kindOf, rens_ints, okIns_ints, List.range, List.range.loop, mrg, mset]
  simp (maxSteps := 2000000) only [↓vP0, vQ0, vT0, simprocAttr]
  refine callK_det (c_begin kd st (by omega)) [0] ?_ ?_ ?_ rfl (by simp) ?_
  · simp [ren, rens, sg, sig, okIn, okIns, exK, leK, leF, leV, matK, objM, renO, roSame, lh, born, AObj.born, AObj.live, injOk, kindOf, rens_ints, okIns_ints, List.range, List.range.loop, mrg, mset]
  · simp [ren, rens, sg, sig, okIn, okIns, exK, leK, leF, leV, matK, objM, renO, roSame, lh, born, AObj.born, AObj.live, injOk, kindOf, rens_ints, okIns_ints, List.range, List.range.loop, mrg, mset]
  · simp [ren, rens, sg, sig, okIn, okIns, exK, leK, leF, leV, matK, objM, renO, roSame, lh, born, AObj.born, AObj.live, injOk, kindOf, rens_ints, okIns_ints, List.range, List.range.loop, mrg, mset]
  simp (maxSteps := 2000000) only [↓vP0, vQ0, vT0, simprocAttr, vI, ivC_put]
  refine exitB_of [(5, .cell 3 36)] ?_
  simp (maxSteps := 2000000) only [↓vP0, vQ0, vT0, simprocAttr, vI]
  refine exit_of [3, 2, 4] (.tup [.ptr 1 0, .int .i64 0]) [.ro (ints .i64 st) 3, .own (pEncC (encNew kd st) 2 3) 126, .own (ints .i64 st) 3, .own [] 5] ⟨rfl, rfl⟩ ?_ ?_ rfl ?_ ?_
  all_goals simp [ren, rens, sg, sig, okIn, okIns, exK, leK, leF, leV, matK, objM, renO, roSame, lh, born, AObj.born, AObj.live, injOk, kindOf, rens_ints, okIns_ints, List.range, List.range.loop, mrg, mset, pEncC, ivC_inj, ivC_rens, ivC_okIns, encNew]
end Go.Proofs.Ytbfefpkhalegmaa

set_option linter.unusedVariables false
set_option linter.unusedSimpArgs false
namespace Go.Proofs.Ytbfefpkhalegmaa
open Go
set_option maxHeartbeats 4000000
set_option maxRecDepth 20000

theorem c_pNoneNil : LCall Try.prog 100 [.nilptr] [] fun r L => r = .bool true ∧ L = [] := by
  refine lcall_of_vc tyok Try.func100 rfl (by rfl) Try.results100 Try.ntmps100 ?_; intro C hD
  simp (maxSteps := 2000000) only [↓vP0, vQ0, vT0, simprocAttr]
  exact exit_keep0 ⟨rfl, rfl⟩ trivial trivial
def pEncR (e : Enc) : List AObj := [.ro (pEncC e 1 2) 126, .ro (ints .i64 e.st) 3, .ro (ints .u8 e.out) 5]
theorem keep_pEncR (e : Enc) : keepL 3 (pEncR e) (pEncR e) := by
  refine ⟨⟨rfl, ?_⟩, ⟨rfl, ?_⟩, ⟨rfl, ?_⟩, trivial⟩
  · rw [pEncC_okIns]; omega
  · rw [okIns_ints]; trivial
  · rw [okIns_ints]; trivial
theorem c_pNone (e : Enc) : LCall Try.prog 100 [.ptr 0 0] (pEncR e) fun r L => r = .bool false ∧ L = pEncR e := by
  refine lcall_of_vc tyok Try.func100 rfl (by rfl) Try.results100 Try.ntmps100 ?_; intro C hD
  simp only [pEncR, pEncC] at hD ⊢
  simp (maxSteps := 2000000) only [↓vP0, vQ0, vT0, simprocAttr, vI]
  exact exit_keep0 ⟨rfl, rfl⟩ trivial (keep_pEncR e)

theorem c_pPutNil (c bit : Int) : LCall Try.prog 41 [.nilptr, .int .i64 c, .int .i64 bit] [] fun r L => r = .int .i64 7 ∧ L = [] := by
  refine lcall_of_vc tyok Try.func41 rfl (by rfl) Try.results41 Try.ntmps41 ?_; intro C hD
  simp (maxSteps := 2000000) only [↓vP0, vQ0, vT0, simprocAttr]
  refine callK_pure c_pNoneNil rfl rfl ?_
  simp (maxSteps := 2000000) only [↓vP0, vQ0, vT0, simprocAttr]
  exact exit_keep0 ⟨rfl, rfl⟩ trivial trivial

theorem c_pPut (e : Enc) (he : e.Ok) (c : Nat) (hc : c < e.st.length) (bit : Int) (hb : KdOk bit) (hlen : e.out.length ≤ 1099511627776) :
    LCall Try.prog 41 [.ptr 0 0, .int .i64 c, .int .i64 bit] (pEncL e) fun r L => r = .int .i64 0 ∧ L = pEncM (e.put c bit) := by
  have cn := c_pNone e
  obtain ⟨kd, st, lo, hi, out⟩ := e
  simp only at hc hlen
  have hs := he.1.get hc
  have hl := likely_bd he.1.1 hs
  have hlc := he.1.2.1
  simp only at hlc hs hl
  have e1 : decide ((c : Int) < 0) = false := decide_eq_false (by omega)
  have e2 : decide ((st.length : Int) ≤ (c : Int)) = false := decide_eq_false (by omega)
  have hm := mid_bd he.2.1 (p := likely kd (st.getD c 0)) (by omega) (by omega)
  have hbd0 := he.2.1
  have ⟨u1, u2, u3⟩ := he.2.1
  simp only at hm u1 u2 u3 hbd0
  refine lcall_of_vc tyok Try.func41 rfl (by rfl) Try.results41 Try.ntmps41 ?_; intro C hD
  simp only [pEncL, pEncR, pEncC] at hD cn ⊢
  have hb' := hb
  have hpart := part_ok he hc hb
  simp (maxSteps := 2000000) only [↓vP0, vQ0, vT0, simprocAttr]
  refine callK_read cn [0, 1, 2] ?_ ?_ ?_ rfl ?_
  · simp [ren, rens, sg, sig, okIn, okIns, exK, leK, leF, leV, matK, objM, renO, roSame, lh, born, AObj.born, AObj.live, injOk, kindOf, rens_ints, okIns_ints, List.range, List.range.loop, mrg, mset]
  · simp [ren, rens, sg, sig, okIn, okIns, exK, leK, leF, leV, matK, objM, renO, roSame, lh, born, AObj.born, AObj.live, injOk, kindOf, rens_ints, okIns_ints, List.range, List.range.loop, mrg, mset]
  · simp [ren, rens, sg, sig, okIn, okIns, exK, leK, leF, leV, matK, objM, renO, roSame, lh, born, AObj.born, AObj.live, injOk, kindOf, rens_ints, okIns_ints, List.range, List.range.loop, mrg, mset, ivC_inj, ivC_rens, ivC_okIns]
  rcases hb with rfl | rfl
  all_goals
    simp (maxSteps := 2000000) only [↓vP0, vQ0, vT0, simprocAttr, e1, e2, vI]
    refine drawK_of tyok rfl (usL []) (fun i => .below 0) (by kernel_rfl) ?_
    simp (maxSteps := 2000000) only [↓vP0, vQ0, vT0, simprocAttr]
    refine callK_read (c_mid kd st lo hi [.slice 2 0 out.length, .bool true] 126 [.ro (ints .u8 out) 5] (by intro o ho; simp at ho; exact ⟨out, ho⟩) (by simp [okIns, okIn]) hbd0 he.1 c hc) [0, 1, 2] ?_ ?_ ?_ rfl ?_
    · simp [ren, rens, sg, sig, okIn, okIns, exK, leK, leF, leV, matK, objM, renO, roSame, lh, born, AObj.born, AObj.live, injOk, kindOf, rens_ints, okIns_ints, List.range, List.range.loop, mrg, mset]
    · simp [ren, rens, sg, sig, okIn, okIns, exK, leK, leF, leV, matK, objM, renO, roSame, lh, born, AObj.born, AObj.live, injOk, kindOf, rens_ints, okIns_ints, List.range, List.range.loop, mrg, mset]
    · simp [ren, rens, sg, sig, okIn, okIns, exK, leK, leF, leV, matK, objM, renO, roSame, lh, born, AObj.born, AObj.live, injOk, kindOf, rens_ints, okIns_ints, List.range, List.range.loop, mrg, mset, ivC_inj, ivC_rens, ivC_okIns]
    simp (maxSteps := 2000000) only [↓vP0, vQ0, vT0, simprocAttr]
    refine callK_det (c_take kd st lo hi [.slice 2 0 out.length, .bool true] 126 [.ro (ints .u8 out) 5] (by intro o ho; simp at ho; exact ⟨out, ho⟩) (by simp [okIns, okIn]) hbd0 he.1 c hc _ hb' (midI lo hi (likely kd (st.getD c 0))) ⟨by omega, by omega⟩) [0, 1, 2] ?_ ?_ ?_ rfl (by simp) ?_
    · simp [ren, rens, sg, sig, okIn, okIns, exK, leK, leF, leV, matK, objM, renO, roSame, lh, born, AObj.born, AObj.live, injOk, kindOf, rens_ints, okIns_ints, List.range, List.range.loop, mrg, mset]
    · simp [ren, rens, sg, sig, okIn, okIns, exK, leK, leF, leV, matK, objM, renO, roSame, lh, born, AObj.born, AObj.live, injOk, kindOf, rens_ints, okIns_ints, List.range, List.range.loop, mrg, mset]
    · simp [ren, rens, sg, sig, okIn, okIns, exK, leK, leF, leV, matK, objM, renO, roSame, lh, born, AObj.born, AObj.live, injOk, kindOf, rens_ints, okIns_ints, List.range, List.range.loop, mrg, mset, ivC_inj, ivC_rens, ivC_okIns]
    simp (maxSteps := 2000000) only [↓vP0, vQ0, vT0, simprocAttr, vI]
    refine loopK_ren tyok hD (α := Nat × Enc) (fun s => flush s.1 s.2 = Enc.put ⟨kd, st, lo, hi, out⟩ c _ ∧ BdOk s.2.lo s.2.hi ∧ Wide s.1 s.2.lo s.2.hi ∧ s.2.out.length + s.1 ≤ 1099511627780) (fun s => s.1)
      (fun s => [.ptr 0 0, .junk, .junk, .junk, .junk, .junk, .junk, .junk, .junk, .junk, .junk, .junk, .junk, .junk, .junk, .junk, .junk, .junk, .junk, .junk, .junk, .junk, .junk, .junk, .junk, .junk, .junk, .junk, .junk, .junk, .junk, .junk, .junk, .junk, .junk, .junk, .junk, .junk, .junk, .junk, .junk, .junk, .junk, .junk, .junk, .junk, .junk, .junk, .junk, .junk, .junk, .junk, .junk, .junk, .junk, .junk, .junk, .junk, .junk, .junk]) (fun s => pEncM s.2) (4, Enc.part ⟨kd, st, lo, hi, out⟩ c _) ⟨rfl, hpart.1, hpart.2, by simp [Enc.part] at hlen ⊢; omega⟩ ⟨[2], ?_⟩ ?_
    · simp only [leR, pEncM, pEncC, Enc.part]
      simp [ren, rens, sg, sig, okIn, okIns, exK, leK, leF, leV, matK, objM, renO, roSame, lh, born, AObj.born, AObj.live, injOk, kindOf, rens_ints, okIns_ints, List.range, List.range.loop, mrg, mset, leF, leV, leK, ivC_inj, ivC_rens, ivC_okIns]
    rintro ⟨n, kd', st', lo', hi', out'⟩ ⟨hf, hbd, hw, hol⟩
    simp only at hf hbd hw hol
    have ⟨w1, w2, w3⟩ := hbd
    simp only [pEncM, pEncC]
    simp (maxSteps := 2000000) only [↓vP0, vQ0, vT0, simprocAttr]
    refine callK_read (c_same kd' st' lo' hi' [.slice 2 0 out'.length, .bool true] 126 [.ro (ints .u8 out') 5] (by intro o ho; simp at ho; exact ⟨out', ho⟩) (by simp [okIns, okIn]) hbd) [0, 1, 3] ?_ ?_ ?_ rfl ?_
    · simp [ren, rens, sg, sig, okIn, okIns, exK, leK, leF, leV, matK, objM, renO, roSame, lh, born, AObj.born, AObj.live, injOk, kindOf, rens_ints, okIns_ints, List.range, List.range.loop, mrg, mset]
    · simp [ren, rens, sg, sig, okIn, okIns, exK, leK, leF, leV, matK, objM, renO, roSame, lh, born, AObj.born, AObj.live, injOk, kindOf, rens_ints, okIns_ints, List.range, List.range.loop, mrg, mset]
    · simp [ren, rens, sg, sig, okIn, okIns, exK, leK, leF, leV, matK, objM, renO, roSame, lh, born, AObj.born, AObj.live, injOk, kindOf, rens_ints, okIns_ints, List.range, List.range.loop, mrg, mset, ivC_inj, ivC_rens, ivC_okIns]
    simp (maxSteps := 2000000) only [↓vP0, vQ0, vT0, simprocAttr]
    (with_reducible first | refine condK_dec (fun h => ?_) (fun h => ?_) | refine condK_beq (fun h => ?_) (fun h => ?_) | refine condK_bne (fun h => ?_) (fun h => ?_) | refine condK_intro (fun h => ?_) (fun h => ?_))
    · cases n with
      | zero => exact absurd h (hw.zero hbd)
      | succ n =>
        simp (maxSteps := 2000000) only [↓vP0, vQ0, vT0, simprocAttr]
        refine drawK_of tyok rfl (usL [[], [], [], [], [8, 9]]) (fun i => if i = 8 then .cells [(0, 36)] else if i = 9 then .below 1 else .below 0) (by kernel_rfl) ?_
        simp (maxSteps := 2000000) only [↓vP0, vQ0, vT0, simprocAttr, vI]
        refine chk_intro (by simp [covK]) ?_
        simp (maxSteps := 2000000) only [↓vP0, vQ0, vT0, simprocAttr, vI]
        refine callK_det (c_lose kd' st' lo' hi' [.slice 2 0 out'.length, .bool true] 126 [.ro (ints .u8 out') 5] (by intro o ho; simp at ho; exact ⟨out', ho⟩) (by simp [okIns, okIn]) hbd) [0, 1, 3] ?_ ?_ ?_ rfl (by simp) ?_
        · simp [ren, rens, sg, sig, okIn, okIns, exK, leK, leF, leV, matK, objM, renO, roSame, lh, born, AObj.born, AObj.live, injOk, kindOf, rens_ints, okIns_ints, List.range, List.range.loop, mrg, mset]
        · simp [ren, rens, sg, sig, okIn, okIns, exK, leK, leF, leV, matK, objM, renO, roSame, lh, born, AObj.born, AObj.live, injOk, kindOf, rens_ints, okIns_ints, List.range, List.range.loop, mrg, mset]
        · simp [ren, rens, sg, sig, okIn, okIns, exK, leK, leF, leV, matK, objM, renO, roSame, lh, born, AObj.born, AObj.live, injOk, kindOf, rens_ints, okIns_ints, List.range, List.range.loop, mrg, mset, ivC_inj, ivC_rens, ivC_okIns]
        simp (maxSteps := 2000000) only [↓vP0, vQ0, vT0, simprocAttr, vI]
        refine chk_intro (by simp [sameK, lh, AObj.cells, ivC_g36, elemO]) ?_
        simp (maxSteps := 2000000) only [↓vP0, vQ0, vT0, simprocAttr, vI]
        refine chk_intro (by omega) ?_
        simp (maxSteps := 2000000) only [↓vP0, vQ0, vT0, simprocAttr, vI]
        have ⟨s1, s2⟩ := hw.shift (e := ⟨kd', st', lo', hi', out'⟩) hbd h
        refine ⟨(n, Enc.shift ⟨kd', st', lo', hi', out'⟩), ⟨by rw [← hf]; simp [flush, h], s1, s2, by simp [Enc.shift]; omega⟩, by simp, [5], ?_⟩
        simp (disch := omega) only [h]
        simp only [leR, pEncM, pEncC, Enc.shift]
        simp [ren, rens, sg, sig, okIn, okIns, exK, leK, leF, leV, matK, objM, renO, roSame, lh, born, AObj.born, AObj.live, injOk, kindOf, rens_ints, okIns_ints, List.range, List.range.loop, mrg, mset, leF, leV, leK, ivC_inj, ivC_rens, ivC_okIns]
    · simp (maxSteps := 2000000) only [↓vP0, vQ0, vT0, simprocAttr]
      have hfl : flush n ⟨kd', st', lo', hi', out'⟩ = ⟨kd', st', lo', hi', out'⟩ := by cases n <;> simp [flush, h]
      refine exit_of [3] (.int .i64 0) (pEncM ⟨kd', st', lo', hi', out'⟩) ⟨rfl, by rw [← hf, hfl]; rfl⟩ ?_ ?_ rfl ?_ ?_ <;> simp [ren, rens, sg, sig, okIn, okIns, exK, leK, leF, leV, matK, objM, renO, roSame, lh, born, AObj.born, AObj.live, injOk, kindOf, rens_ints, okIns_ints, List.range, List.range.loop, mrg, mset, pEncM, pEncC, ivC_inj, ivC_rens, ivC_okIns]
end Go.Proofs.Ytbfefpkhalegmaa

set_option linter.unusedVariables false
set_option linter.unusedSimpArgs false
namespace Go.Proofs.Ytbfefpkhalegmaa
open Go
set_option maxHeartbeats 1000000

/-- Four bytes of a code from a place on, zeros behind its end. -/
def win (b : List Int) (i : Nat) : Int := b.getD i 0 * 16777216 + b.getD (i + 1) 0 * 65536 + b.getD (i + 2) 0 * 256 + b.getD (i + 3) 0
def ByOk (b : List Int) : Prop := ∀ x ∈ b, 0 ≤ x ∧ x ≤ 255
theorem ByOk.get {b : List Int} (h : ByOk b) (i : Nat) : 0 ≤ b.getD i 0 ∧ b.getD i 0 ≤ 255 := by
  by_cases hi : i < b.length
  · rw [List.getD_eq_getElem?_getD, List.getElem?_eq_getElem hi]; exact h _ (List.getElem_mem hi)
  · rw [List.getD_eq_getElem?_getD, List.getElem?_eq_none (by omega)]; simp
theorem ByOk.app {b c : List Int} (h : ByOk b) (h' : ByOk c) : ByOk (b ++ c) := fun x hx => (List.mem_append.1 hx).elim (h x) (h' x)

/-- A decoder: at is pos + 4, the value is what stands from pos on. -/
structure Dec where
  kd : Int
  st : List Int
  lo : Int
  hi : Int
  code : List Int
  pos : Nat
  dead : Bool
def Dec.shift (d : Dec) : Dec := { d with lo := d.lo % 16777216 * 256, hi := d.hi % 16777216 * 256 + 255, pos := d.pos + 1 }
def flushD : Nat → Dec → Dec
  | 0, d => d
  | n + 1, d => if d.lo / 16777216 = d.hi / 16777216 then flushD n d.shift else d
def Dec.mid (d : Dec) (c : Nat) : Int := midI d.lo d.hi (likely d.kd (d.st.getD c 0))
def Dec.bit (d : Dec) (c : Nat) : Int := if win d.code d.pos ≤ d.mid c then 1 else 0
def Dec.part (d : Dec) (c : Nat) (bit : Int) : Dec :=
  { d with st := d.st.set c (after d.kd (d.st.getD c 0) bit), lo := if bit = 1 then d.lo else d.mid c + 1, hi := if bit = 1 then d.mid c else d.hi }
def Dec.next (d : Dec) (c : Nat) : Dec := flushD 4 (d.part c (d.bit c))
def Dec.fails (d : Dec) (c : Nat) : Bool := d.dead || decide (d.code.length < (d.next c).pos)
def Dec.after (d : Dec) (c : Nat) : Dec := if d.fails c then { d with dead := true } else d.next c
def Dec.got (d : Dec) (c : Nat) : Int := if d.fails c then 0 else d.bit c
def Dec.err (d : Dec) (c : Nat) : Int := if d.fails c then 6 else 0
def decNew (kd : Int) (st : List Int) (code : List Int) : Dec := ⟨kd, st, 0, 4294967295, code, 0, false⟩
def Dec.Ok (d : Dec) : Prop := StsOk d.kd d.st ∧ BdOk d.lo d.hi ∧ d.lo / 16777216 ≠ d.hi / 16777216 ∧ ByOk d.code ∧ d.pos ≤ d.code.length

/-- The decoder of a code that has come as far as an encoder. -/
def decOf (e : Enc) (code : List Int) : Dec := ⟨e.kd, e.st, e.lo, e.hi, code, e.out.length, false⟩
theorem flushD_of (code : List Int) : ∀ (n : Nat) (e : Enc), flushD n (decOf e code) = decOf (flush n e) code
  | 0, e => rfl
  | n + 1, e => by
    simp only [flushD, flush]
    have h1 : (decOf e code).shift = decOf e.shift code := by simp [decOf, Dec.shift, Enc.shift]
    change (if e.lo / 16777216 = e.hi / 16777216 then flushD n (decOf e code).shift else decOf e code) = _
    rw [h1, flushD_of code n e.shift]
    split <;> rfl

/-- How many bytes the end of a code takes, and which. -/
def topN (hi : Int) (n : Nat) : Int := hi / 256 ^ (4 - n) * 256 ^ (4 - n)
def endN (lo hi : Int) : Nat := if lo ≤ topN hi 0 then 0 else if lo ≤ topN hi 1 then 1 else if lo ≤ topN hi 2 then 2 else if lo ≤ topN hi 3 then 3 else 4
def endL (hi : Int) (n : Nat) : List Int := [hi / 16777216, hi / 65536 % 256, hi / 256 % 256, hi % 256].take n
def Enc.fin (e : Enc) : List Int := e.out ++ endL e.hi (endN e.lo e.hi)

theorem getD_app_ge (a b : List Int) (i : Nat) : (a ++ b).getD (a.length + i) 0 = b.getD i 0 := by
  simp [List.getD_eq_getElem?_getD, List.getElem?_append_right]
theorem win_app (a b : List Int) : win (a ++ b) a.length = win b 0 := by
  unfold win
  have h0 := getD_app_ge a b 0
  rw [Nat.add_zero] at h0
  rw [h0, getD_app_ge, getD_app_ge, getD_app_ge]
theorem endL_ok {hi : Int} (h0 : 0 ≤ hi) (h1 : hi ≤ 4294967295) (n : Nat) : ByOk (endL hi n) := by
  intro x hx
  have := List.mem_of_mem_take hx
  simp at this
  omega
theorem end_win {lo hi : Int} (h : BdOk lo hi) : lo ≤ win (endL hi (endN lo hi)) 0 ∧ win (endL hi (endN lo hi)) 0 ≤ hi := by
  obtain ⟨a, b, c⟩ := h
  unfold endN topN
  simp only [Nat.reduceSub, Int.reducePow]
  split
  · simp [endL, win]; omega
  split
  · simp [endL, win]; omega
  split
  · simp [endL, win]; omega
  split
  · simp [endL, win]; omega
  · simp [endL, win]; omega

theorem flush_pre : ∀ (n : Nat) (e : Enc), ∃ t, (flush n e).out = e.out ++ t
  | 0, e => ⟨[], by simp [flush]⟩
  | n + 1, e => by
    simp only [flush]
    split
    · obtain ⟨t, h⟩ := flush_pre n e.shift
      exact ⟨e.hi / 16777216 :: t, by rw [h]; simp [Enc.shift]⟩
    · exact ⟨[], by simp⟩
theorem put_pre (e : Enc) (c : Nat) (bit : Int) : ∃ t, (e.put c bit).out = e.out ++ t := flush_pre 4 (e.part c bit)

theorem win_next (code : List Int) (i : Nat) (hb : ByOk code) : win code i = code.getD i 0 * 16777216 + win code (i + 1) / 256 := by
  have h0 := hb.get i
  have h1 := hb.get (i + 1)
  have h2 := hb.get (i + 2)
  have h3 := hb.get (i + 3)
  have h4 := hb.get (i + 4)
  unfold win
  rw [show i + 1 + 1 = i + 2 by omega, show i + 1 + 2 = i + 3 by omega, show i + 1 + 3 = i + 4 by omega]
  omega

/-- What a code has behind shifts tells what it has ahead of them. -/
theorem flush_back (code : List Int) (hb : ByOk code) : ∀ (n : Nat) (e : Enc), BdOk e.lo e.hi → (∃ t, code = (flush n e).out ++ t) →
    (flush n e).lo ≤ win code (flush n e).out.length ∧ win code (flush n e).out.length ≤ (flush n e).hi → e.lo ≤ win code e.out.length ∧ win code e.out.length ≤ e.hi
  | 0, e, _, _, h => h
  | n + 1, e, hbd, hp, h => by
    simp only [flush] at hp h
    split at h
    · rename_i he
      rw [if_pos he] at hp
      have hbd' : BdOk e.shift.lo e.shift.hi := by
        obtain ⟨a, b, c⟩ := hbd
        refine ⟨?_, ?_, ?_⟩ <;> simp only [Enc.shift] <;> omega
      obtain ⟨h1, h2⟩ := flush_back code hb n e.shift hbd' hp h
      obtain ⟨t, ht⟩ := hp
      obtain ⟨t2, ht2⟩ := flush_pre n e.shift
      have hx : code.getD e.out.length 0 = e.hi / 16777216 := by
        rw [ht, ht2]
        simp [Enc.shift, List.getD_eq_getElem?_getD]
      have hl : e.shift.out.length = e.out.length + 1 := by simp [Enc.shift]
      rw [hl] at h1 h2
      simp only [Enc.shift] at h1 h2
      have hw := win_next code e.out.length hb
      obtain ⟨a, b, c⟩ := hbd
      rw [hw, hx]
      omega
    · exact h

theorem dec_step {e : Enc} (he : e.Ok) {c : Nat} (hc : c < e.st.length) {bit : Int} (hbit : KdOk bit) {code : List Int} (hb : ByOk code) (hp : ∃ t, code = (e.put c bit).out ++ t)
    (hw : (e.put c bit).lo ≤ win code (e.put c bit).out.length ∧ win code (e.put c bit).out.length ≤ (e.put c bit).hi) :
    (e.lo ≤ win code e.out.length ∧ win code e.out.length ≤ e.hi) ∧ (decOf e code).fails c = false ∧ (decOf e code).bit c = bit ∧ (decOf e code).next c = decOf (e.put c bit) code := by
  have hpart := part_ok he hc hbit
  have h1 := flush_back code hb 4 (e.part c bit) hpart.1 hp hw
  have hm := mid_bd he.2.1 (p := likely e.kd (e.st.getD c 0)) (by have := likely_bd he.1.1 (he.1.get hc); omega) (by have := likely_bd he.1.1 (he.1.get hc); omega)
  have ho : (e.part c bit).out = e.out := rfl
  rw [ho] at h1
  have hbt : (decOf e code).bit c = bit := by
    unfold Dec.bit
    have e1 : (decOf e code).mid c = midI e.lo e.hi (likely e.kd (e.st.getD c 0)) := rfl
    have e2 : win (decOf e code).code (decOf e code).pos = win code e.out.length := rfl
    rw [e1, e2]
    rcases hbit with rfl | rfl
    · simp [Enc.part, -List.getD_eq_getElem?_getD] at h1
      rw [if_neg (by omega)]
    · simp [Enc.part, -List.getD_eq_getElem?_getD] at h1
      rw [if_pos (by omega)]
  have hn : (decOf e code).next c = decOf (e.put c bit) code := by
    unfold Dec.next
    rw [hbt]
    have : (decOf e code).part c bit = decOf (e.part c bit) code := rfl
    rw [this, flushD_of]; rfl
  refine ⟨?_, ?_, hbt, hn⟩
  · rcases hbit with rfl | rfl <;> simp [Enc.part, -List.getD_eq_getElem?_getD] at h1 <;> omega
  · unfold Dec.fails
    rw [hn]
    obtain ⟨t, rfl⟩ := hp
    have : (decOf (e.put c bit) ((e.put c bit).out ++ t)).pos = (e.put c bit).out.length := rfl
    rw [this]
    simp [decOf]

def encAll (e : Enc) : List (Nat × Int) → Enc
  | [] => e
  | (c, b) :: l => encAll (e.put c b) l
def EvsOk (n : Nat) (l : List (Nat × Int)) : Prop := ∀ x ∈ l, x.1 < n ∧ KdOk x.2
/-- A decoder that will give these bits in these contexts. -/
def Feeds : Dec → List (Nat × Int) → Dec → Prop
  | d, [], d' => d = d'
  | d, (c, b) :: l, d' => d.fails c = false ∧ d.bit c = b ∧ Feeds (d.next c) l d'
theorem Feeds.app : ∀ (l m : List (Nat × Int)) (d d2 : Dec), Feeds d (l ++ m) d2 → ∃ d1, Feeds d l d1 ∧ Feeds d1 m d2
  | [], m, d, d2, h => ⟨d, rfl, h⟩
  | (c, b) :: l, m, d, d2, h => by
    obtain ⟨h1, h2, h3⟩ := h
    obtain ⟨d1, h4, h5⟩ := Feeds.app l m _ d2 h3
    exact ⟨d1, ⟨h1, h2, h4⟩, h5⟩
theorem encAll_app : ∀ (l m : List (Nat × Int)) (e : Enc), encAll e (l ++ m) = encAll (encAll e l) m
  | [], m, e => rfl
  | (c, b) :: l, m, e => encAll_app l m _
theorem encAll_ok : ∀ (l : List (Nat × Int)) (e : Enc), e.Ok → EvsOk e.st.length l → (encAll e l).Ok ∧ (encAll e l).kd = e.kd ∧ (encAll e l).st.length = e.st.length ∧ (encAll e l).out.length ≤ e.out.length + 4 * l.length
  | [], e, he, hl => ⟨he, rfl, rfl, by simp [encAll]⟩
  | (c, b) :: l, e, he, hl => by
    have h0 := hl (c, b) (List.mem_cons_self ..)
    obtain ⟨h1, h2, h3, h4⟩ := put_ok (c := c) (bit := b) he h0.1 h0.2
    have hs : (e.put c b).st.length = e.st.length := by rw [h3]; simp
    obtain ⟨a1, a2, a3, a4⟩ := encAll_ok l (e.put c b) h1 (fun x hx => by rw [hs]; exact hl x (List.mem_cons_of_mem _ hx))
    refine ⟨a1, a2.trans h2, a3.trans hs, ?_⟩
    simp only [encAll, List.length_cons]
    omega
theorem encAll_pre : ∀ (l : List (Nat × Int)) (e : Enc), ∃ t, (encAll e l).out = e.out ++ t
  | [], e => ⟨[], by simp [encAll]⟩
  | (c, b) :: l, e => by
    obtain ⟨t, h⟩ := encAll_pre l (e.put c b)
    obtain ⟨u, h'⟩ := put_pre e c b
    exact ⟨u ++ t, by simp only [encAll]; rw [h, h', List.append_assoc]⟩

theorem feeds_of (code : List Int) (hb : ByOk code) : ∀ (l : List (Nat × Int)) (e : Enc), e.Ok → EvsOk e.st.length l → (∃ t, code = (encAll e l).out ++ t) →
    (encAll e l).lo ≤ win code (encAll e l).out.length ∧ win code (encAll e l).out.length ≤ (encAll e l).hi →
    (e.lo ≤ win code e.out.length ∧ win code e.out.length ≤ e.hi) ∧ Feeds (decOf e code) l (decOf (encAll e l) code)
  | [], e, _, _, _, hw => ⟨hw, rfl⟩
  | (c, b) :: l, e, he, hl, hp, hw => by
    have h0 := hl (c, b) (List.mem_cons_self ..)
    obtain ⟨h1, h2, h3, h4⟩ := put_ok (c := c) (bit := b) he h0.1 h0.2
    have hs : (e.put c b).st.length = e.st.length := by rw [h3]; simp
    obtain ⟨k1, k2⟩ := feeds_of code hb l (e.put c b) h1 (fun x hx => by rw [hs]; exact hl x (List.mem_cons_of_mem _ hx)) hp hw
    have hp' : ∃ t, code = (e.put c b).out ++ t := by
      obtain ⟨t, rfl⟩ := hp
      obtain ⟨u, hu⟩ := encAll_pre l (e.put c b)
      exact ⟨u ++ t, by simp only [encAll]; rw [hu, List.append_assoc]⟩
    obtain ⟨a1, a2, a3, a4⟩ := dec_step he h0.1 h0.2 hb hp' k1
    refine ⟨a1, a2, a3, ?_⟩
    rw [a4]; exact k2

theorem flush_by : ∀ (n : Nat) (e : Enc), BdOk e.lo e.hi → ByOk e.out → ByOk (flush n e).out
  | 0, e, _, h => h
  | n + 1, e, hb, h => by
    simp only [flush]
    split
    · refine flush_by n e.shift ?_ ?_
      · obtain ⟨a, b, c⟩ := hb
        refine ⟨?_, ?_, ?_⟩ <;> simp only [Enc.shift] <;> omega
      · obtain ⟨a, b, c⟩ := hb
        refine h.app fun x hx => ?_
        simp at hx; omega
    · exact h
theorem put_by {e : Enc} (he : e.Ok) {c : Nat} (hc : c < e.st.length) {bit : Int} (hbit : KdOk bit) (h : ByOk e.out) : ByOk (e.put c bit).out :=
  flush_by 4 _ (part_ok he hc hbit).1 h
theorem encAll_by : ∀ (l : List (Nat × Int)) (e : Enc), e.Ok → EvsOk e.st.length l → ByOk e.out → ByOk (encAll e l).out
  | [], e, _, _, h => h
  | (c, b) :: l, e, he, hl, h => by
    have h0 := hl (c, b) (List.mem_cons_self ..)
    obtain ⟨h1, h2, h3, h4⟩ := put_ok (c := c) (bit := b) he h0.1 h0.2
    have hs : (e.put c b).st.length = e.st.length := by rw [h3]; simp
    exact encAll_by l _ h1 (fun x hx => by rw [hs]; exact hl x (List.mem_cons_of_mem _ hx)) (put_by he h0.1 h0.2 h)
theorem fin_by {e : Enc} (he : e.Ok) (h : ByOk e.out) : ByOk e.fin := h.app (endL_ok (by have := he.2.1; unfold BdOk at this; omega) he.2.1.2.2 _)

/-- What an encoder of a new code has put, a decoder of that code gives. -/
theorem feeds_new {kd : Int} {st : List Int} (hs : StsOk kd st) {l : List (Nat × Int)} (hl : EvsOk st.length l) :
    Feeds (decNew kd st (encAll (encNew kd st) l).fin) l (decOf (encAll (encNew kd st) l) (encAll (encNew kd st) l).fin) := by
  have he : (encNew kd st).Ok := ⟨hs, ⟨by simp [encNew], by simp [encNew], by simp [encNew]⟩, by simp [encNew]⟩
  have hl' : EvsOk (encNew kd st).st.length l := hl
  have hok := encAll_ok l _ he hl'
  have hby := encAll_by l _ he hl' (fun x hx => by simp [encNew] at hx)
  have hw := end_win hok.1.2.1
  refine (feeds_of _ (fin_by hok.1 hby) l (encNew kd st) he hl' ⟨_, rfl⟩ ?_).2
  unfold Enc.fin
  rw [win_app]
  exact hw
end Go.Proofs.Ytbfefpkhalegmaa

set_option linter.unusedVariables false
set_option linter.unusedSimpArgs false
namespace Go.Proofs.Ytbfefpkhalegmaa
open Go
set_option maxHeartbeats 1000000

def dctx (c i : Nat) : Nat := if i = 0 then 23 + c else min (43 + i) 47
def dig (v k : Nat) : Int := (v / 2 ^ k % 2 : Nat)
def numTail (v c : Nat) : List (Nat × Int) := (List.range' 0 c).map fun i => (dctx c i, dig v (c - 1 - i))
def numHead (c : Nat) : List (Nat × Int) := ((List.range' 0 c).map fun i => (1 + i, (1 : Int))) ++ if c < 20 then [(1 + c, 0)] else []
def numEv (none : Bool) (n : Int) : List (Nat × Int) :=
  if none then [(0, 1)] else (0, 0) :: (numHead (n.natAbs + 1).log2 ++ numTail (n.natAbs + 1) (n.natAbs + 1).log2 ++ if n = 0 then [] else [(22, if n < 0 then 1 else 0)])
def NumOk (none : Bool) (n : Int) : Prop := if none then n = 0 else -1048576 ≤ n ∧ n ≤ 1048576
def mv (base : Nat) (l : List (Nat × Int)) : List (Nat × Int) := l.map fun x => (base + x.1, x.2)

def lenD (base : Nat) : Nat → Nat → Dec → Int × Nat × Dec
  | 0, c, d => (0, c, d)
  | k + 1, c, d => if d.err (base + 1 + c) ≠ 0 then (d.err (base + 1 + c), c, d.after (base + 1 + c)) else
      if d.got (base + 1 + c) = 0 then (0, c, d.after (base + 1 + c)) else lenD base k (c + 1) (d.after (base + 1 + c))
def digD (base c : Nat) : Nat → Nat → Int → Dec → Int × Int × Dec
  | 0, i, v, d => (0, v, d)
  | k + 1, i, v, d => if d.err (base + dctx c i) ≠ 0 then (d.err (base + dctx c i), 0, d.after (base + dctx c i)) else digD base c k (i + 1) (2 * v + d.got (base + dctx c i)) (d.after (base + dctx c i))
structure NumR where
  none : Bool
  n : Int
  err : Int
  d : Dec
def numGetV (base : Nat) (v : Int) (d : Dec) : NumR :=
  if v > 1048577 then ⟨false, 0, 3, d⟩ else if v = 1 then ⟨false, 0, 0, d⟩ else
    if d.err (base + 22) ≠ 0 then ⟨false, 0, d.err (base + 22), d.after (base + 22)⟩ else ⟨false, (v - 1) * (1 - 2 * d.got (base + 22)), 0, d.after (base + 22)⟩
def numGetD (base : Nat) (c : Nat) (d : Dec) : NumR :=
  if (digD base c c 0 1 d).1 ≠ 0 then ⟨false, 0, (digD base c c 0 1 d).1, (digD base c c 0 1 d).2.2⟩ else numGetV base (digD base c c 0 1 d).2.1 (digD base c c 0 1 d).2.2
def numGetL (base : Nat) (d : Dec) : NumR :=
  if (lenD base 20 0 d).1 ≠ 0 then ⟨false, 0, (lenD base 20 0 d).1, (lenD base 20 0 d).2.2⟩ else numGetD base (lenD base 20 0 d).2.1 (lenD base 20 0 d).2.2
def numGet (base : Nat) (d : Dec) : NumR :=
  if d.err base ≠ 0 then ⟨false, 0, d.err base, d.after base⟩ else if d.got base = 1 then ⟨true, 0, 0, d.after base⟩ else numGetL base (d.after base)

theorem feeds_get {d d' : Dec} {c : Nat} {b : Int} {l : List (Nat × Int)} (h : Feeds d ((c, b) :: l) d') : d.err c = 0 ∧ d.got c = b ∧ Feeds (d.after c) l d' := by
  obtain ⟨h1, h2, h3⟩ := h
  exact ⟨by simp [Dec.err, h1], by simp [Dec.got, h1, h2], by simp [Dec.after, h1]; exact h3⟩

theorem lenD_feeds (base : Nat) (d' : Dec) : ∀ (k j : Nat) (d : Dec), j + k ≤ 20 →
    Feeds d (mv base (((List.range' j k).map fun i => (1 + i, (1 : Int))) ++ if j + k < 20 then [(1 + (j + k), 0)] else [])) d' → lenD base (20 - j) j d = (0, j + k, d')
  | 0, j, d, hk, h => by
    by_cases hj : j < 20
    · obtain ⟨m, hm⟩ : ∃ m, 20 - j = m + 1 := ⟨19 - j, by omega⟩
      simp [hj, mv] at h
      rw [show base + (1 + j) = base + 1 + j by omega] at h
      obtain ⟨h1, h2, h3⟩ := feeds_get h
      simp only [Feeds] at h3
      rw [hm, lenD, if_neg (by simp [h1]), if_pos h2, h3]; rfl
    · have : 20 - j = 0 := by omega
      simp [hj, mv, Feeds] at h
      rw [this, lenD, h]; rfl
  | k + 1, j, d, hk, h => by
    obtain ⟨m, hm⟩ : ∃ m, 20 - j = m + 1 := ⟨19 - j, by omega⟩
    simp only [List.range'_succ, List.map_cons, List.cons_append, mv] at h
    rw [show base + (1 + j) = base + 1 + j by omega] at h
    obtain ⟨h1, h2, h3⟩ := feeds_get h
    have ih := lenD_feeds base d' k (j + 1) (d.after (base + 1 + j)) (by omega) (by
      simp only [mv, List.map_append] at h3 ⊢
      rw [show j + 1 + k = j + (k + 1) by omega]
      exact h3)
    rw [hm, lenD, if_neg (by simp [h1]), if_neg (by rw [h2]; omega)]
    rw [show 20 - (j + 1) = m by omega, show j + 1 + k = j + (k + 1) by omega] at ih
    exact ih

theorem dig_step (v k : Nat) (w : Int) : (2 * w + dig v k) * 2 ^ k + (v % 2 ^ k : Nat) = w * 2 ^ (k + 1) + (v % 2 ^ (k + 1) : Nat) := by
  have h : v % 2 ^ (k + 1) = (v / 2 ^ k % 2) * 2 ^ k + v % 2 ^ k := by
    rw [Nat.pow_succ, Nat.mod_mul]; rw [Nat.mul_comm (2 ^ k)]; omega
  rw [h]
  unfold dig
  rw [Int.natCast_add, Int.natCast_mul, Int.pow_succ, Int.add_mul]
  have e : ((2 ^ k : Nat) : Int) = 2 ^ k := by simp
  rw [e]
  generalize (2 : Int) ^ k = p
  generalize ((v / 2 ^ k % 2 : Nat) : Int) = q
  rw [Int.mul_assoc, Int.mul_comm 2 (w * p), Int.mul_assoc]
  omega

theorem digD_feeds (base c v : Nat) (d' : Dec) : ∀ (k i : Nat) (w : Int) (d : Dec), i + k = c →
    Feeds d (mv base ((List.range' i k).map fun i => (dctx c i, dig v (c - 1 - i)))) d' → digD base c k i w d = (0, w * 2 ^ k + (v % 2 ^ k : Nat), d')
  | 0, i, w, d, hk, h => by simp [mv, Feeds] at h; simp [digD, h, Nat.mod_one]
  | k + 1, i, w, d, hk, h => by
    simp only [List.range'_succ, List.map_cons, mv] at h
    obtain ⟨h1, h2, h3⟩ := feeds_get h
    have ih := digD_feeds base c v d' k (i + 1) (2 * w + dig v (c - 1 - i)) _ (by omega) h3
    rw [digD, if_neg (by simp [h1]), h2, ih, show c - 1 - i = k by omega, dig_step]

theorem numGet_feeds {none : Bool} {n : Int} (hn : NumOk none n) {base : Nat} {d d' : Dec} (h : Feeds d (mv base (numEv none n)) d') : numGet base d = ⟨none, n, 0, d'⟩ := by
  cases none with
  | true =>
    simp [numEv, mv] at h
    obtain ⟨h1, h2, h3⟩ := feeds_get h
    simp [NumOk] at hn
    simp only [Feeds] at h3
    rw [numGet, if_neg (by simp [h1]), if_pos h2, h3, hn]
  | false =>
    simp only [NumOk, Bool.false_eq_true, if_false] at hn
    simp only [numEv, Bool.false_eq_true, if_false] at h
    generalize hv : n.natAbs + 1 = v at h
    have hv0 : v ≠ 0 := by omega
    have hc : v.log2 ≤ 20 := by
      have : v < 2 ^ 21 := by omega
      have := (Nat.log2_lt hv0).2 this
      omega
    simp only [mv, List.map_cons, List.map_append] at h
    obtain ⟨h1, h2, h3⟩ := feeds_get h
    rw [List.append_assoc] at h3
    obtain ⟨da, ha, h3⟩ := Feeds.app _ _ _ _ h3
    obtain ⟨db, hb, h3⟩ := Feeds.app _ _ _ _ h3
    have e1 := lenD_feeds base da v.log2 0 _ (by omega) (by
      simp only [mv, Nat.zero_add]
      exact ha)
    have e2 := digD_feeds base v.log2 v db v.log2 0 1 _ (by omega) hb
    have ev : (1 : Int) * 2 ^ v.log2 + (v % 2 ^ v.log2 : Nat) = v := by
      have l1 := Nat.log2_self_le hv0
      have l2 : v < 2 ^ (v.log2 + 1) := (Nat.log2_lt hv0).1 (by omega)
      rw [Nat.pow_succ] at l2
      have : v % 2 ^ v.log2 = v - 2 ^ v.log2 := by
        rw [Nat.mod_eq_sub_mod l1, Nat.mod_eq_of_lt (by omega)]
      rw [this]
      have e : ((2 ^ v.log2 : Nat) : Int) = 2 ^ v.log2 := by simp
      omega
    rw [ev] at e2
    rw [Nat.sub_zero, Nat.zero_add] at e1
    rw [Nat.add_zero] at h1 h2 ha e1
    rw [numGet, if_neg (by simp [h1]), if_neg (by rw [h2]; omega), numGetL, e1]
    simp only [ne_eq, not_true_eq_false, if_false]
    rw [numGetD, e2]
    simp only [ne_eq, not_true_eq_false, if_false]
    rw [numGetV, if_neg (by omega)]
    by_cases hz : n = 0
    · simp [hz, Feeds] at h3
      rw [if_pos (by omega), h3, hz]
    · rw [if_neg hz] at h3
      simp only [List.map_cons, List.map_nil] at h3
      obtain ⟨k1, k2, k3⟩ := feeds_get h3
      simp only [Feeds] at k3
      rw [if_neg (by omega), if_neg (by simp [k1]), k2, k3]
      congr 1
      split <;> omega
end Go.Proofs.Ytbfefpkhalegmaa

set_option linter.unusedVariables false
set_option linter.unusedSimpArgs false
namespace Go.Proofs.Ytbfefpkhalegmaa
open Go
set_option maxHeartbeats 4000000
set_option maxRecDepth 20000

theorem c_pPutBad (e : Enc) : LCall Try.prog 41 [.ptr 0 0, .int .i64 (-1), .int .i64 0] (pEncR e) fun r L => r = .int .i64 2 ∧ L = pEncR e := by
  have cn := c_pNone e
  refine lcall_of_vc tyok Try.func41 rfl (by rfl) Try.results41 Try.ntmps41 ?_; intro C hD
  simp only [pEncR, pEncC] at hD cn ⊢
  simp (maxSteps := 2000000) only [↓vP0, vQ0, vT0, simprocAttr]
  refine callK_read cn [0, 1, 2] ?_ ?_ ?_ rfl ?_
  · simp [ren, rens, sg, sig, okIn, okIns, exK, leK, leF, leV, matK, objM, renO, roSame, lh, born, AObj.born, AObj.live, injOk, kindOf, rens_ints, okIns_ints, List.range, List.range.loop, mrg, mset]
  · simp [ren, rens, sg, sig, okIn, okIns, exK, leK, leF, leV, matK, objM, renO, roSame, lh, born, AObj.born, AObj.live, injOk, kindOf, rens_ints, okIns_ints, List.range, List.range.loop, mrg, mset]
  · simp [ren, rens, sg, sig, okIn, okIns, exK, leK, leF, leV, matK, objM, renO, roSame, lh, born, AObj.born, AObj.live, injOk, kindOf, rens_ints, okIns_ints, List.range, List.range.loop, mrg, mset, ivC_inj, ivC_rens, ivC_okIns]
  simp (maxSteps := 2000000) only [↓vP0, vQ0, vT0, simprocAttr, vI]
  exact exit_keep0 ⟨rfl, rfl⟩ trivial (keep_pEncR e)

theorem c_pModel (e : Enc) (hl : e.st.length ≤ 8192) : LCall Try.prog 45 [.ptr 0 0] (pEncR e) fun r L => r = .agg [.int .i64 e.kd, .slice 3 0 e.st.length] ∧ L = pEncR e ++ [.own (ints .i64 e.st) 3] := by
  have cn := c_pNone e
  refine lcall_of_vc tyok Try.func45 rfl (by rfl) Try.results45 Try.ntmps45 ?_; intro C hD
  simp only [pEncR, pEncC] at hD cn ⊢
  simp (maxSteps := 2000000) only [↓vP0, vQ0, vT0, simprocAttr]
  refine callK_read cn [0, 1, 2] ?_ ?_ ?_ rfl ?_
  · simp [ren, rens, sg, sig, okIn, okIns, exK, leK, leF, leV, matK, objM, renO, roSame, lh, born, AObj.born, AObj.live, injOk, kindOf, rens_ints, okIns_ints, List.range, List.range.loop, mrg, mset]
  · simp [ren, rens, sg, sig, okIn, okIns, exK, leK, leF, leV, matK, objM, renO, roSame, lh, born, AObj.born, AObj.live, injOk, kindOf, rens_ints, okIns_ints, List.range, List.range.loop, mrg, mset]
  · simp [ren, rens, sg, sig, okIn, okIns, exK, leK, leF, leV, matK, objM, renO, roSame, lh, born, AObj.born, AObj.live, injOk, kindOf, rens_ints, okIns_ints, List.range, List.range.loop, mrg, mset, ivC_inj, ivC_rens, ivC_okIns]
  simp (maxSteps := 2000000) only [↓vP0, vQ0, vT0, simprocAttr, vI]
  refine callK_det (c_pClone e.kd e.st (by omega)) [1] ?_ ?_ ?_ rfl (by simp) ?_
  · simp [ren, rens, sg, sig, okIn, okIns, exK, leK, leF, leV, matK, objM, renO, roSame, lh, born, AObj.born, AObj.live, injOk, kindOf, rens_ints, okIns_ints, List.range, List.range.loop, mrg, mset]
  · simp [ren, rens, sg, sig, okIn, okIns, exK, leK, leF, leV, matK, objM, renO, roSame, lh, born, AObj.born, AObj.live, injOk, kindOf, rens_ints, okIns_ints, List.range, List.range.loop, mrg, mset]
  · simp [ren, rens, sg, sig, okIn, okIns, exK, leK, leF, leV, matK, objM, renO, roSame, lh, born, AObj.born, AObj.live, injOk, kindOf, rens_ints, okIns_ints, List.range, List.range.loop, mrg, mset]
  simp (maxSteps := 2000000) only [↓vP0, vQ0, vT0, simprocAttr]
  refine exit_of [4] (.agg [.int .i64 e.kd, .slice 3 0 e.st.length]) (pEncR e ++ [.own (ints .i64 e.st) 3]) ⟨rfl, rfl⟩ ?_ ?_ rfl ?_ ?_
  all_goals simp [ren, rens, sg, sig, okIn, okIns, exK, leK, leF, leV, matK, objM, renO, roSame, lh, born, AObj.born, AObj.live, injOk, kindOf, rens_ints, okIns_ints, List.range, List.range.loop, mrg, mset, pEncR, pEncC, ivC_inj, ivC_rens, ivC_okIns]

theorem topN_at {hi : Int} (h0 : 0 ≤ hi) (h1 : hi ≤ 4294967295) {i : Nat} (hi4 : i ≤ 4) :
    IntKind.u64.wrap (hi.fdiv (2 ^ if (32 - 8 * (i : Int)).toNat ≤ 64 then (32 - 8 * (i : Int)).toNat else 64) * 2 ^ if (32 - 8 * (i : Int)).toNat ≤ 64 then (32 - 8 * (i : Int)).toNat else 64) = topN hi i := by
  have : i = 0 ∨ i = 1 ∨ i = 2 ∨ i = 3 ∨ i = 4 := by omega
  rcases this with rfl | rfl | rfl | rfl | rfl <;> simp [topN] <;> (try rw [fdv _ _ (by decide)]) <;> rw [wru64 _ (by omega) (by omega)]
theorem byte_at {hi : Int} (h0 : 0 ≤ hi) (h1 : hi ≤ 4294967295) {j : Nat} (hj : j < 4) :
    endL hi (j + 1) = endL hi j ++ [hi.fdiv (2 ^ if (24 - 8 * (j : Int)).toNat ≤ 64 then (24 - 8 * (j : Int)).toNat else 64) % 256] := by
  have : j = 0 ∨ j = 1 ∨ j = 2 ∨ j = 3 := by omega
  rcases this with rfl | rfl | rfl | rfl <;> simp [endL] <;> rw [fdv _ _ (by decide)] <;> omega
theorem endL_len (hi : Int) {n : Nat} (h : n ≤ 4) : (endL hi n).length = n := by simp [endL]; omega
theorem endN_of {lo hi : Int} (h : BdOk lo hi) {i : Nat} (hi4 : i ≤ 4) (hlow : ∀ m < i, topN hi m < lo) (hc : lo ≤ topN hi i) : endN lo hi = i := by
  have : i = 0 ∨ i = 1 ∨ i = 2 ∨ i = 3 ∨ i = 4 := by omega
  unfold endN
  rcases this with rfl | rfl | rfl | rfl | rfl
  · rw [if_pos hc]
  · have := hlow 0 (by omega); rw [if_neg (by omega), if_pos hc]
  · have := hlow 0 (by omega); have := hlow 1 (by omega); rw [if_neg (by omega), if_neg (by omega), if_pos hc]
  · have := hlow 0 (by omega); have := hlow 1 (by omega); have := hlow 2 (by omega); rw [if_neg (by omega), if_neg (by omega), if_neg (by omega), if_pos hc]
  · have := hlow 0 (by omega); have := hlow 1 (by omega); have := hlow 2 (by omega); have := hlow 3 (by omega); rw [if_neg (by omega), if_neg (by omega), if_neg (by omega), if_neg (by omega)]

theorem c_pEnd (e : Enc) (he : e.Ok) (hlen : e.out.length ≤ 1099511627776) :
    LCall Try.prog 42 [.ptr 0 0] (pEncR e) fun r L => r = .slice 3 0 e.fin.length ∧ L = pEncR e ++ [.own (ints .u8 e.fin) 5] := by
  have cn := c_pNone e
  refine lcall_of_vc tyok Try.func42 rfl (by rfl) Try.results42 Try.ntmps42 ?_; intro C hD
  simp only [pEncR, pEncC] at hD cn ⊢
  simp (maxSteps := 2000000) only [↓vP0, vQ0, vT0, simprocAttr]
  refine callK_read cn [0, 1, 2] ?_ ?_ ?_ rfl ?_
  · simp [ren, rens, sg, sig, okIn, okIns, exK, leK, leF, leV, matK, objM, renO, roSame, lh, born, AObj.born, AObj.live, injOk, kindOf, rens_ints, okIns_ints, List.range, List.range.loop, mrg, mset]
  · simp [ren, rens, sg, sig, okIn, okIns, exK, leK, leF, leV, matK, objM, renO, roSame, lh, born, AObj.born, AObj.live, injOk, kindOf, rens_ints, okIns_ints, List.range, List.range.loop, mrg, mset]
  · simp [ren, rens, sg, sig, okIn, okIns, exK, leK, leF, leV, matK, objM, renO, roSame, lh, born, AObj.born, AObj.live, injOk, kindOf, rens_ints, okIns_ints, List.range, List.range.loop, mrg, mset, ivC_inj, ivC_rens, ivC_okIns]
  simp (maxSteps := 2000000) only [↓vP0, vQ0, vT0, simprocAttr, vI]
  refine chk_intro (by omega) ?_
  simp (maxSteps := 2000000) only [↓vP0, vQ0, vT0, simprocAttr, vI]
  refine loopK_ren tyok hD (α := Nat) (fun i => i ≤ 4 ∧ ∀ m < i, topN e.hi m < e.lo) (fun i => 4 - i)
    (fun i => [.ptr 0 0, .junk, .junk, .slice 3 0 e.out.length, .junk, .junk, .junk, .junk, .junk, .junk, .junk, .junk, .junk, .junk, .junk, .int .i64 i, .junk, .junk, .junk, .junk, .junk, .junk, .junk, .junk, .junk, .junk, .junk, .junk, .junk, .junk, .junk, .junk, .junk, .junk, .junk, .junk, .junk, .junk, .junk, .junk, .junk, .junk, .junk, .junk, .junk, .junk, .junk, .junk, .junk, .junk, .junk, .junk, .junk, .junk, .junk, .junk, .junk, .junk]) (fun i => pEncR e ++ [.own (ints .u8 e.out) 5]) 0 ⟨by omega, fun m hm => by omega⟩ ⟨[3], ?_⟩ ?_
  · simp only [leR, pEncR, pEncC]
    simp [ren, rens, sg, sig, okIn, okIns, exK, leK, leF, leV, matK, objM, renO, roSame, lh, born, AObj.born, AObj.live, injOk, kindOf, rens_ints, okIns_ints, List.range, List.range.loop, mrg, mset, leF, leV, leK, ivC_inj, ivC_rens, ivC_okIns]
  rintro i ⟨hi4, hlow⟩
  simp only [pEncR, pEncC]
  have hlt : decide ((i : Int) < 5) = true := decide_eq_true (by omega)
  simp (maxSteps := 2000000) only [↓vP0, vQ0, vT0, simprocAttr, vI, hlt]
  refine drawK_of tyok rfl (usL []) (fun i => .below 0) (by kernel_rfl) ?_
  simp (maxSteps := 2000000) only [↓vP0, vQ0, vT0, simprocAttr, vI]
  have hw1 : IntKind.u64.wrap (IntKind.i64.wrap (32 - IntKind.i64.wrap (8 * (i : Int)))) = 32 - 8 * (i : Int) := by
    rw [wr64 (8 * _) (by omega) (by omega), wr64 _ (by omega) (by omega), wru64 _ (by omega) (by omega)]
  refine chk_intro (by omega) ?_
  simp (maxSteps := 2000000) only [↓vP0, vQ0, vT0, simprocAttr, vI, hw1]
  refine chk_intro (by omega) ?_
  simp (maxSteps := 2000000) only [↓vP0, vQ0, vT0, simprocAttr, vI, hw1]
  have ⟨b1, b2, b3⟩ := he.2.1
  rw [topN_at (by omega) b3 hi4]
  (with_reducible first | refine condK_dec (fun h => ?_) (fun h => ?_) | refine condK_beq (fun h => ?_) (fun h => ?_) | refine condK_bne (fun h => ?_) (fun h => ?_) | refine condK_intro (fun h => ?_) (fun h => ?_))
  · simp (maxSteps := 2000000) only [↓vP0, vQ0, vT0, simprocAttr, vI]
    refine loopK_ren tyok hD (α := Nat) (fun j => j ≤ i) (fun j => i - j)
      (fun j => [.ptr 0 0, .junk, .junk, .slice 3 0 (e.out ++ endL e.hi j).length, .junk, .junk, .junk, .junk, .junk, .junk, .junk, .junk, .junk, .junk, .junk, .junk, .junk, .junk, .junk, .junk, .junk, .junk, .junk, .junk, .junk, .junk, .junk, .junk, .junk, .junk, .junk, .junk, .junk, .junk, .junk, .junk, .junk, .int .i64 i, .int .i64 j, .junk, .junk, .junk, .junk, .junk, .junk, .junk, .junk, .junk, .junk, .junk, .junk, .junk, .junk, .junk, .junk, .junk, .junk, .junk]) (fun j => pEncR e ++ [.own (ints .u8 (e.out ++ endL e.hi j)) 5]) 0 (by omega) ⟨[3], ?_⟩ ?_
    · simp only [leR, pEncR, pEncC]
      simp [ren, rens, sg, sig, okIn, okIns, exK, leK, leF, leV, matK, objM, renO, roSame, lh, born, AObj.born, AObj.live, injOk, kindOf, rens_ints, okIns_ints, List.range, List.range.loop, mrg, mset, leF, leV, leK, ivC_inj, ivC_rens, ivC_okIns, endL]
    intro j hj
    simp only [pEncR, pEncC]
    simp (maxSteps := 2000000) only [↓vP0, vQ0, vT0, simprocAttr, vI]
    (with_reducible first | refine condK_dec (fun h => ?_) (fun h => ?_) | refine condK_beq (fun h => ?_) (fun h => ?_) | refine condK_bne (fun h => ?_) (fun h => ?_) | refine condK_intro (fun h => ?_) (fun h => ?_))
    · rename_i hji
      have hw2 : IntKind.i64.wrap (24 - IntKind.i64.wrap (8 * (j : Int))) = 24 - 8 * (j : Int) := by
        rw [wr64 (8 * _) (by omega) (by omega), wr64 _ (by omega) (by omega)]
      simp (maxSteps := 2000000) only [↓vP0, vQ0, vT0, simprocAttr, vI, hw2]
      refine chk_intro (by omega) ?_
      simp (maxSteps := 2000000) only [↓vP0, vQ0, vT0, simprocAttr, vI, hw2]
      refine chk_intro (by simp [endL]; omega) ?_
      simp (maxSteps := 2000000) only [↓vP0, vQ0, vT0, simprocAttr, vI, hw2]
      have hw3 : IntKind.i64.wrap ((j : Int) + 1) = ((j + 1 : Nat) : Int) := by rw [wr64 _ (by omega) (by omega)]; omega
      refine ⟨j + 1, by omega, by omega, [5], ?_⟩
      rw [byte_at (by omega) b3 (j := j) (by omega)]
      simp only [leR, pEncR, pEncC, hw3, wru8]
      simp [ren, rens, sg, sig, okIn, okIns, exK, leK, leF, leV, matK, objM, renO, roSame, lh, born, AObj.born, AObj.live, injOk, kindOf, rens_ints, okIns_ints, List.range, List.range.loop, mrg, mset, leF, leV, leK, ivC_inj, ivC_rens, ivC_okIns, Nat.add_assoc]
    · rename_i hji
      simp (maxSteps := 2000000) only [↓vP0, vQ0, vT0, simprocAttr, vI]
      have hj' : j = i := by omega
      subst hj'
      have hfin : e.fin = e.out ++ endL e.hi j := by unfold Enc.fin; rw [endN_of he.2.1 hi4 hlow ‹_›]
      refine exit_of [3] (.slice 3 0 e.fin.length) (pEncR e ++ [.own (ints .u8 e.fin) 5]) ⟨rfl, rfl⟩ ?_ ?_ rfl ?_ ?_
      all_goals simp [ren, rens, sg, sig, okIn, okIns, exK, leK, leF, leV, matK, objM, renO, roSame, lh, born, AObj.born, AObj.live, injOk, kindOf, rens_ints, okIns_ints, List.range, List.range.loop, mrg, mset, pEncR, pEncC, ivC_inj, ivC_rens, ivC_okIns, hfin]
  · have hno := h
    have hi' : i < 4 := by
      rcases Nat.lt_or_eq_of_le hi4 with h | rfl
      · exact h
      · simp [topN] at hno; omega
    have hw3 : IntKind.i64.wrap ((i : Int) + 1) = ((i + 1 : Nat) : Int) := by rw [wr64 _ (by omega) (by omega)]; omega
    simp (maxSteps := 2000000) only [↓vP0, vQ0, vT0, simprocAttr, vI, hw3]
    refine ⟨i + 1, ⟨by omega, fun m hm => ?_⟩, by omega, [3], ?_⟩
    · rcases Nat.lt_or_eq_of_le (Nat.le_of_lt_succ hm) with h | rfl
      · exact hlow m h
      · omega
    · simp only [leR, pEncR, pEncC]
      simp [ren, rens, sg, sig, okIn, okIns, exK, leK, leF, leV, matK, objM, renO, roSame, lh, born, AObj.born, AObj.live, injOk, kindOf, rens_ints, okIns_ints, List.range, List.range.loop, mrg, mset, leF, leV, leK, ivC_inj, ivC_rens, ivC_okIns]
end Go.Proofs.Ytbfefpkhalegmaa

set_option linter.unusedVariables false
set_option linter.unusedSimpArgs false
namespace Go.Proofs.Ytbfefpkhalegmaa
open Go
set_option maxHeartbeats 4000000
set_option maxRecDepth 20000

theorem topN_step {hi : Int} (h0 : 0 ≤ hi) (h1 : hi ≤ 4294967295) {i : Nat} (hi4 : i < 4) :
    IntKind.u64.wrap (topN hi i + IntKind.u64.wrap ((hi.fdiv (2 ^ if (24 - 8 * (i : Int)).toNat ≤ 64 then (24 - 8 * (i : Int)).toNat else 64)).tmod 256 * 2 ^ if (24 - 8 * (i : Int)).toNat ≤ 64 then (24 - 8 * (i : Int)).toNat else 64)) = topN hi (i + 1) := by
  have : i = 0 ∨ i = 1 ∨ i = 2 ∨ i = 3 := by omega
  rcases this with rfl | rfl | rfl | rfl <;> simp [topN] <;> (try rw [fdv _ _ (by decide)]) <;> (rw [tmd _ _ (by omega)]) <;> simp (disch := omega) only [wru64] <;> omega

theorem c_ivEnd (lo hi : Int) (hb : BdOk lo hi) : LCall Try.prog 105 [ivl lo hi] [] fun r L => r = .slice 0 0 (endN lo hi) ∧ L = [.own (ints .u8 (endL hi (endN lo hi))) 5] := by
  have ⟨b1, b2, b3⟩ := hb
  have p0 : 0 ≤ hi := by omega
  refine lcall_of_vcB tyok Try.func105 rfl (by rfl) Try.results105 Try.ntmps105 ?_; intro C hD
  simp (maxSteps := 2000000) only [↓vP0, vQ0, vT0, simprocAttr]
  refine loopK_b tyok hD (α := Nat) (fun i => i ≤ 4 ∧ ∀ m < i, topN hi m < lo) (fun i => 4 - i)
    (fun i => [.junk, .ptr 0 0, .junk, .slice 1 0 i, .int .u64 (topN hi i), .junk, .junk, .junk, .junk, .junk, .junk, .junk, .junk, .junk, .junk, .junk, .junk, .junk, .junk, .junk, .junk, .junk, .junk, .junk, .junk, .junk, .junk, .junk, .junk, .junk, .junk, .junk]) (fun i => [.own [.int .u64 lo, .int .u64 hi] 129, .own (ints .u8 (endL hi i)) 5]) 0 ⟨by omega, fun m hm => by omega⟩ ⟨[(5, .fr 3 [])], [0, 1], ?_⟩ ?_
  · simp (maxSteps := 2000000) only [↓vP0, vQ0, vT0, simprocAttr]
    have : topN hi 0 = 0 := by simp [topN]; omega
    simp only [leR, this]
    simp [ren, rens, sg, sig, okIn, okIns, exK, leK, leF, leV, matK, objM, renO, roSame, lh, born, AObj.born, AObj.live, injOk, kindOf, rens_ints, okIns_ints, List.range, List.range.loop, mrg, mset, leF, leV, leK, endL, ints_nil]
  rintro i ⟨hi4, hlow⟩
  have hl := endL_len hi hi4
  simp (maxSteps := 2000000) only [↓vP0, vQ0, vT0, simprocAttr]
  (with_reducible first | refine condK_dec (fun h => ?_) (fun h => ?_) | refine condK_beq (fun h => ?_) (fun h => ?_) | refine condK_bne (fun h => ?_) (fun h => ?_) | refine condK_intro (fun h => ?_) (fun h => ?_))
  · have hi' : i < 4 := by
      rcases Nat.lt_or_eq_of_le hi4 with h | rfl
      · exact h
      · simp [topN] at h; omega
    have hw2 : IntKind.i64.wrap (24 - IntKind.i64.wrap (8 * (i : Int))) = 24 - 8 * (i : Int) := by
      rw [wr64 (8 * _) (by omega) (by omega), wr64 _ (by omega) (by omega)]
    simp (maxSteps := 2000000) only [↓vP0, vQ0, vT0, simprocAttr, hw2]
    refine chk_intro (by omega) ?_
    simp (maxSteps := 2000000) only [↓vP0, vQ0, vT0, simprocAttr, hw2]
    refine chk_intro (by simp [hl]; omega) ?_
    simp (maxSteps := 2000000) only [↓vP0, vQ0, vT0, simprocAttr, hw2]
    refine chk_intro (by omega) ?_
    simp (maxSteps := 2000000) only [↓vP0, vQ0, vT0, simprocAttr, hw2]
    refine chk_intro (by omega) ?_
    simp (maxSteps := 2000000) only [↓vP0, vQ0, vT0, simprocAttr, hw2]
    refine ⟨i + 1, ⟨by omega, fun m hm => ?_⟩, by omega, [], [0, 3], ?_⟩
    · rcases Nat.lt_or_eq_of_le (Nat.le_of_lt_succ hm) with h | rfl
      · exact hlow m h
      · assumption
    · simp (maxSteps := 2000000) only [↓vP0, vQ0, vT0, simprocAttr]
      rw [topN_step p0 b3 hi', byte_at p0 b3 hi']
      simp only [leR, wru8]
      simp [ren, rens, sg, sig, okIn, okIns, exK, leK, leF, leV, matK, objM, renO, roSame, lh, born, AObj.born, AObj.live, injOk, kindOf, rens_ints, okIns_ints, List.range, List.range.loop, mrg, mset, leF, leV, leK]
  · simp (maxSteps := 2000000) only [↓vP0, vQ0, vT0, simprocAttr]
    rw [endN_of hb hi4 hlow (by omega)]
    refine exitB_P (exit_of [1] (.slice 0 0 i) [.own (ints .u8 (endL hi i)) 5] ⟨rfl, rfl⟩ ?_ ?_ rfl ?_ ?_)
    all_goals simp [ren, rens, sg, sig, okIn, okIns, exK, leK, leF, leV, matK, objM, renO, roSame, lh, born, AObj.born, AObj.live, injOk, kindOf, rens_ints, okIns_ints, List.range, List.range.loop, mrg, mset]

def rEncR (e : Enc) : List AObj := [.ro (rEncC e 1 2) 132, .ro (ints .i64 e.st) 3, .ro (ints .u8 e.out) 5]
theorem c_rModel (e : Enc) (hl : e.st.length ≤ 8192) : LCall Try.prog 46 [.ptr 0 0] (rEncR e) fun r L => r = .agg [.int .i64 e.kd, .slice 3 0 e.st.length] ∧ L = rEncR e ++ [.own (ints .i64 e.st) 3] := by
  refine lcall_of_vc tyok Try.func46 rfl (by rfl) Try.results46 Try.ntmps46 ?_; intro C hD
  simp only [rEncR, rEncC] at hD ⊢
  simp (maxSteps := 2000000) only [↓vP0, vQ0, vT0, simprocAttr]
  refine callK_det (c_rCopy e.kd e.st (by omega)) [1] ?_ ?_ ?_ rfl (by simp) ?_
  · simp [ren, rens, sg, sig, okIn, okIns, exK, leK, leF, leV, matK, objM, renO, roSame, lh, born, AObj.born, AObj.live, injOk, kindOf, rens_ints, okIns_ints, List.range, List.range.loop, mrg, mset]
  · simp [ren, rens, sg, sig, okIn, okIns, exK, leK, leF, leV, matK, objM, renO, roSame, lh, born, AObj.born, AObj.live, injOk, kindOf, rens_ints, okIns_ints, List.range, List.range.loop, mrg, mset]
  · simp [ren, rens, sg, sig, okIn, okIns, exK, leK, leF, leV, matK, objM, renO, roSame, lh, born, AObj.born, AObj.live, injOk, kindOf, rens_ints, okIns_ints, List.range, List.range.loop, mrg, mset]
  simp (maxSteps := 2000000) only [↓vP0, vQ0, vT0, simprocAttr]
  refine exit_of [4] (.agg [.int .i64 e.kd, .slice 3 0 e.st.length]) (rEncR e ++ [.own (ints .i64 e.st) 3]) ⟨rfl, rfl⟩ ?_ ?_ rfl ?_ ?_
  all_goals simp [ren, rens, sg, sig, okIn, okIns, exK, leK, leF, leV, matK, objM, renO, roSame, lh, born, AObj.born, AObj.live, injOk, kindOf, rens_ints, okIns_ints, List.range, List.range.loop, mrg, mset, rEncR, rEncC]

theorem c_rEnd (e : Enc) (he : e.Ok) (hlen : e.out.length ≤ 1099511627776) :
    LCall Try.prog 43 [.ptr 0 0] (rEncR e) fun r L => r = .slice 3 0 e.fin.length ∧ L = rEncR e ++ [.own (ints .u8 e.fin) 5] := by
  refine lcall_of_vc tyok Try.func43 rfl (by rfl) Try.results43 Try.ntmps43 ?_; intro C hD
  simp only [rEncR, rEncC] at hD ⊢
  have hn : endN e.lo e.hi ≤ 4 := by unfold endN; (repeat' split) <;> omega
  have hl := endL_len e.hi hn
  simp (maxSteps := 2000000) only [↓vP0, vQ0, vT0, simprocAttr]
  refine drawK_of tyok rfl (usL [[], [], [], [], [0], [], [], [], [], [0, 5]]) (fun i => .below 3) (by kernel_rfl) ?_
  simp (maxSteps := 2000000) only [↓vP0, vQ0, vT0, simprocAttr]
  refine chk_intro (by omega) ?_
  simp (maxSteps := 2000000) only [↓vP0, vQ0, vT0, simprocAttr]
  refine callK_det (c_ivEnd e.lo e.hi he.2.1) [] rfl (by simp [ren, rens, sg, sig, okIn, okIns, exK, leK, leF, leV, matK, objM, renO, roSame, lh, born, AObj.born, AObj.live, injOk, kindOf, rens_ints, okIns_ints, List.range, List.range.loop, mrg, mset]) trivial rfl (by simp) ?_
  simp (maxSteps := 2000000) only [↓vP0, vQ0, vT0, simprocAttr]
  refine chk_intro (by simp [hl]) ?_
  simp (maxSteps := 2000000) only [↓vP0, vQ0, vT0, simprocAttr]
  refine chk_intro (by omega) ?_
  have ht : List.take (endN e.lo e.hi) (endL e.hi (endN e.lo e.hi)) = endL e.hi (endN e.lo e.hi) := List.take_of_length_le (by omega)
  simp (maxSteps := 2000000) only [↓vP0, vQ0, vT0, simprocAttr, ht]

  refine exit_of [5] (.slice 3 0 e.fin.length) (rEncR e ++ [.own (ints .u8 e.fin) 5]) ⟨rfl, rfl⟩ ?_ ?_ rfl ?_ ?_
  all_goals simp [ren, rens, sg, sig, okIn, okIns, exK, leK, leF, leV, matK, objM, renO, roSame, lh, born, AObj.born, AObj.live, injOk, kindOf, rens_ints, okIns_ints, List.range, List.range.loop, mrg, mset, rEncR, rEncC, Enc.fin, hl]
end Go.Proofs.Ytbfefpkhalegmaa
