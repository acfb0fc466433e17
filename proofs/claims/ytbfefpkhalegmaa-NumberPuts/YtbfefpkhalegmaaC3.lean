/- Contracts of the reference's decoder. -/
import Derived.Test.YtbfefpkhalegmaaC2

set_option linter.unusedVariables false
set_option linter.unusedSimpArgs false
namespace Go.Proofs.Ytbfefpkhalegmaa
open Go
set_option maxHeartbeats 4000000
set_option maxRecDepth 20000

theorem c_byteAt (b : List Int) (hb : ByOk b) (hl : b.length ≤ 1099511627776) (i : Nat) : LCall Try.prog 112 [.slice 0 0 b.length, .int .i64 i] [.ro (ints .u8 b) 5] fun r L => r = .int .u64 (b.getD i 0) ∧ L = [.ro (ints .u8 b) 5] := by
  have hb := hb.get i
  refine lcall_of_vc tyok Try.func112 rfl (by rfl) Try.results112 Try.ntmps112 ?_; intro C hD
  simp (maxSteps := 2000000) only [↓vP0, vQ0, vT0, simprocAttr]
  (with_reducible first | refine condK_dec (fun h => ?_) (fun h => ?_) | refine condK_beq (fun h => ?_) (fun h => ?_) | refine condK_bne (fun h => ?_) (fun h => ?_) | refine condK_intro (fun h => ?_) (fun h => ?_))
  · have hi : i < b.length := by omega
    simp (maxSteps := 2000000) only [↓vP0, vQ0, vT0, simprocAttr]
    refine chk_intro (by omega) ?_
    simp (maxSteps := 2000000) only [↓vP0, vQ0, vT0, simprocAttr, ints_get _ _ _ hi]
    rw [wru64 _ (by omega) (by omega)]
    exact exit_keep0 ⟨rfl, rfl⟩ trivial ⟨⟨rfl, by rw [okIns_ints]; trivial⟩, trivial⟩
  · have : b.getD i 0 = 0 := by rw [List.getD_eq_getElem?_getD, List.getElem?_eq_none (by omega)]; rfl
    simp (maxSteps := 2000000) only [↓vP0, vQ0, vT0, simprocAttr]
    rw [this]
    exact exit_keep0 ⟨rfl, rfl⟩ trivial ⟨⟨rfl, by rw [okIns_ints]; trivial⟩, trivial⟩

def beyI (d : Dec) : Int := max 0 ((d.pos : Int) + 4 - d.code.length)
/-- The decoder's cells; its states are object s, its code is object k. -/
def rDecC (d : Dec) (s k : Nat) : List AV := [.int .i64 d.kd, .slice s 0 d.st.length, .int .u64 d.lo, .int .u64 d.hi, .slice k 0 d.code.length, .int .i64 ((d.pos : Int) + 4), .int .u64 (win d.code d.pos), .int .i64 (beyI d), .bool d.dead]
theorem rDecC_rens (σ : Nat → Nat) (d : Dec) (s k : Nat) : rens σ (rDecC d s k) = rDecC d (σ s) (σ k) := by simp [rDecC, rens, ren]
theorem rDecC_okIns (B : Nat → Prop) (d : Dec) (s k : Nat) : okIns B (rDecC d s k) = (B s ∧ B k) := by simp [rDecC, okIns, okIn]
theorem rDecC_inj (d : Dec) (s k s' k' : Nat) : (rDecC d s k = rDecC d s' k') = (s = s' ∧ k = k') := by simp [rDecC]
def rDecL (d : Dec) : List AObj := [.own (rDecC d 1 2) 158, .own (ints .i64 d.st) 3, .ro (ints .u8 d.code) 5]

def wins (b : List Int) : Nat → Int
  | 0 => 0
  | i + 1 => wins b i * 256 + b.getD i 0
theorem wins_bd {b : List Int} (h : ByOk b) {i : Nat} (hi : i ≤ 4) : 0 ≤ wins b i ∧ wins b i ≤ 4294967295 := by
  have h0 := h.get 0
  have h1 := h.get 1
  have h2 := h.get 2
  have h3 := h.get 3
  have : i = 0 ∨ i = 1 ∨ i = 2 ∨ i = 3 ∨ i = 4 := by omega
  rcases this with rfl | rfl | rfl | rfl | rfl <;> simp only [wins] <;> omega
theorem wins_4 (b : List Int) : wins b 4 = win b 0 := by simp only [wins, win, Nat.zero_add]; omega

theorem c_rNewDecoder (kd : Int) (st code : List Int) (h : StsOk kd st) (hb : ByOk code) (hc : code.length ≤ 1099511627776) :
    LCall Try.prog 50 [.agg [.int .i64 kd, .slice 0 0 st.length], .slice 1 0 code.length] [.ro (ints .i64 st) 3, .ro (ints .u8 code) 5] fun r L =>
    r = .tup [.ptr 2 0, .int .i64 0] ∧ L = [.ro (ints .i64 st) 3, .ro (ints .u8 code) 5, .own (rDecC (decNew kd st code) 3 4) 158, .own (ints .i64 st) 3, .own (ints .u8 code) 5] := by
  have hl := h.2.1
  refine lcall_of_vc tyok Try.func50 rfl (by rfl) Try.results50 Try.ntmps50 ?_; intro C hD
  simp (maxSteps := 2000000) only [↓vP0, vQ0, vT0, simprocAttr]
  refine callK_read (c_rValid kd st h) [0] ?_ ?_ ?_ rfl ?_
  · simp [ren, rens, sg, sig, okIn, okIns, exK, leK, leF, leV, matK, objM, renO, roSame, lh, born, AObj.born, AObj.live, injOk, kindOf, rens_ints, okIns_ints, List.range, List.range.loop, mrg, mset]
  · simp [ren, rens, sg, sig, okIn, okIns, exK, leK, leF, leV, matK, objM, renO, roSame, lh, born, AObj.born, AObj.live, injOk, kindOf, rens_ints, okIns_ints, List.range, List.range.loop, mrg, mset]
  · simp [ren, rens, sg, sig, okIn, okIns, exK, leK, leF, leV, matK, objM, renO, roSame, lh, born, AObj.born, AObj.live, injOk, kindOf, rens_ints, okIns_ints, List.range, List.range.loop, mrg, mset]
  simp (maxSteps := 2000000) only [↓vP0, vQ0, vT0, simprocAttr]
  refine callK_det (c_rCopy kd st (by omega)) [0] ?_ ?_ ?_ rfl (by simp) ?_
  · simp [ren, rens, sg, sig, okIn, okIns, exK, leK, leF, leV, matK, objM, renO, roSame, lh, born, AObj.born, AObj.live, injOk, kindOf, rens_ints, okIns_ints, List.range, List.range.loop, mrg, mset]
  · simp [ren, rens, sg, sig, okIn, okIns, exK, leK, leF, leV, matK, objM, renO, roSame, lh, born, AObj.born, AObj.live, injOk, kindOf, rens_ints, okIns_ints, List.range, List.range.loop, mrg, mset]
  · simp [ren, rens, sg, sig, okIn, okIns, exK, leK, leF, leV, matK, objM, renO, roSame, lh, born, AObj.born, AObj.live, injOk, kindOf, rens_ints, okIns_ints, List.range, List.range.loop, mrg, mset]
  simp (maxSteps := 2000000) only [↓vP0, vQ0, vT0, simprocAttr]
  refine callK_pure c_Whole rfl rfl ?_
  simp (maxSteps := 2000000) only [↓vP0, vQ0, vT0, simprocAttr]
  refine chk_intro (by omega) ?_
  simp (maxSteps := 2000000) only [↓vP0, vQ0, vT0, simprocAttr]
  rw [wr64 (4 - (code.length : Int)) (by omega) (by omega)]
  refine loopK_of tyok hD (α := Nat) (fun i => i ≤ 4) (fun i => 4 - i) (fun i => [.junk, .junk, .junk, .junk, .junk, .junk, .ptr 5 0, .int .i64 i, .junk, .junk, .junk, .junk, .junk, .junk, .junk, .junk, .junk, .junk, .junk, .junk, .junk, .junk, .junk, .junk, .junk, .junk, .junk, .junk, .junk, .junk, .junk, .junk, .junk, .junk, .junk, .junk, .junk, .junk, .junk, .junk, .junk, .junk, .junk])
    (fun i => [.ro (ints .i64 st) 3, .ro (ints .u8 code) 5, .own [.int .i64 kd, .slice 0 0 st.length] 60, .own (ints .i64 st) 3, .own (ints .u8 code) 5,
      .own [.int .i64 kd, .slice 3 0 st.length, .int .u64 0, .int .u64 4294967295, .slice 4 0 code.length, .int .i64 4, .int .u64 (wins code i), .int .i64 (max 0 (4 - (code.length : Int))), .bool false] 158]) 0 (by omega) (by simp only [wins]; (refine ⟨by simp [leF, leV] <;> rfl, ⟨_, by first | rfl | exact (List.append_nil _).symm⟩, by simp, by simp [okIns, okIn, okIns_ints], by simp [AObj.born, okIns, okIn, AObj.cells, okIns_ints]⟩)) ?_
  intro i hi
  have hw := wins_bd hb hi
  have hbi := hb.get i
  simp (maxSteps := 2000000) only [↓vP0, vQ0, vT0, simprocAttr]
  (with_reducible first | refine condK_dec (fun h => ?_) (fun h => ?_) | refine condK_beq (fun h => ?_) (fun h => ?_) | refine condK_bne (fun h => ?_) (fun h => ?_) | refine condK_intro (fun h => ?_) (fun h => ?_))
  · have hi' : i < 4 := by omega
    have hw' := wins_bd hb (show i + 1 ≤ 4 by omega)
    simp only [wins] at hw'
    simp (maxSteps := 2000000) only [↓vP0, vQ0, vT0, simprocAttr]
    refine drawK_of tyok rfl (usL [[], [], [], [], [11]]) (fun i => if i = 11 then .below 6 else .below 0) (by kernel_rfl) ?_
    simp (maxSteps := 2000000) only [↓vP0, vQ0, vT0, simprocAttr]
    refine callK_read (c_byteAt code hb hc i) [4] ?_ ?_ ?_ rfl ?_
    · simp [ren, rens, sg, sig, okIn, okIns, exK, leK, leF, leV, matK, objM, renO, roSame, lh, born, AObj.born, AObj.live, injOk, kindOf, rens_ints, okIns_ints, List.range, List.range.loop, mrg, mset]
    · simp [ren, rens, sg, sig, okIn, okIns, exK, leK, leF, leV, matK, objM, renO, roSame, lh, born, AObj.born, AObj.live, injOk, kindOf, rens_ints, okIns_ints, List.range, List.range.loop, mrg, mset]
    · simp [ren, rens, sg, sig, okIn, okIns, exK, leK, leF, leV, matK, objM, renO, roSame, lh, born, AObj.born, AObj.live, injOk, kindOf, rens_ints, okIns_ints, List.range, List.range.loop, mrg, mset]
    simp (maxSteps := 2000000) only [↓vP0, vQ0, vT0, simprocAttr]
    simp (disch := omega) only [wr64, wru64, wru8, tdv, tmd, fdv]
    refine ⟨i + 1, by omega, by omega, ?_⟩
    simp only [wins, Int.natCast_add, Int.cast_ofNat_Int]
    (refine ⟨by simp [leF, leV] <;> rfl, ⟨_, by first | rfl | exact (List.append_nil _).symm⟩, by simp, by simp [okIns, okIn, okIns_ints], by simp [AObj.born, okIns, okIn, AObj.cells, okIns_ints]⟩)
  · have : i = 4 := by omega
    subst this
    simp (maxSteps := 2000000) only [↓vP0, vQ0, vT0, simprocAttr]
    rw [wins_4]
    refine exit_of [5, 3, 4] (.tup [.ptr 2 0, .int .i64 0]) [.ro (ints .i64 st) 3, .ro (ints .u8 code) 5, .own (rDecC (decNew kd st code) 3 4) 158, .own (ints .i64 st) 3, .own (ints .u8 code) 5] ⟨rfl, rfl⟩ ?_ ?_ rfl ?_ ?_
    all_goals simp [ren, rens, sg, sig, okIn, okIns, exK, leK, leF, leV, matK, objM, renO, roSame, lh, born, AObj.born, AObj.live, injOk, kindOf, rens_ints, okIns_ints, List.range, List.range.loop, mrg, mset, rDecC, decNew, beyI]

def rDecR (d : Dec) : List AObj := [.ro (rDecC d 1 2) 158, .ro (ints .i64 d.st) 3, .ro (ints .u8 d.code) 5]
theorem c_rDModel (d : Dec) (hl : d.st.length ≤ 8192) : LCall Try.prog 119 [.ptr 0 0] (rDecR d) fun r L => r = .agg [.int .i64 d.kd, .slice 3 0 d.st.length] ∧ L = rDecR d ++ [.own (ints .i64 d.st) 3] := by
  refine lcall_of_vc tyok Try.func119 rfl (by rfl) Try.results119 Try.ntmps119 ?_; intro C hD
  simp only [rDecR, rDecC] at hD ⊢
  simp (maxSteps := 2000000) only [↓vP0, vQ0, vT0, simprocAttr]
  refine callK_det (c_rCopy d.kd d.st (by omega)) [1] ?_ ?_ ?_ rfl (by simp) ?_
  · simp [ren, rens, sg, sig, okIn, okIns, exK, leK, leF, leV, matK, objM, renO, roSame, lh, born, AObj.born, AObj.live, injOk, kindOf, rens_ints, okIns_ints, List.range, List.range.loop, mrg, mset]
  · simp [ren, rens, sg, sig, okIn, okIns, exK, leK, leF, leV, matK, objM, renO, roSame, lh, born, AObj.born, AObj.live, injOk, kindOf, rens_ints, okIns_ints, List.range, List.range.loop, mrg, mset]
  · simp [ren, rens, sg, sig, okIn, okIns, exK, leK, leF, leV, matK, objM, renO, roSame, lh, born, AObj.born, AObj.live, injOk, kindOf, rens_ints, okIns_ints, List.range, List.range.loop, mrg, mset]
  simp (maxSteps := 2000000) only [↓vP0, vQ0, vT0, simprocAttr]
  refine exit_of [4] (.agg [.int .i64 d.kd, .slice 3 0 d.st.length]) (rDecR d ++ [.own (ints .i64 d.st) 3]) ⟨rfl, rfl⟩ ?_ ?_ rfl ?_ ?_
  all_goals simp [ren, rens, sg, sig, okIn, okIns, exK, leK, leF, leV, matK, objM, renO, roSame, lh, born, AObj.born, AObj.live, injOk, kindOf, rens_ints, okIns_ints, List.range, List.range.loop, mrg, mset, rDecR, rDecC]

theorem flushD_ok : ∀ (n : Nat) (d : Dec), BdOk d.lo d.hi → Wide n d.lo d.hi → BdOk (flushD n d).lo (flushD n d).hi ∧ (flushD n d).lo / 16777216 ≠ (flushD n d).hi / 16777216 ∧ (flushD n d).kd = d.kd ∧ (flushD n d).st = d.st ∧ (flushD n d).code = d.code ∧
    (flushD n d).dead = d.dead ∧ (flushD n d).pos ≤ d.pos + n ∧ d.pos ≤ (flushD n d).pos
  | 0, d, hb, hw => ⟨hb, hw.zero hb, rfl, rfl, rfl, rfl, by simp [flushD], by simp [flushD]⟩
  | n + 1, d, hb, hw => by
    simp only [flushD]
    split
    · rename_i he
      obtain ⟨h1, h2⟩ := hw.shift (e := ⟨d.kd, d.st, d.lo, d.hi, []⟩) hb he
      obtain ⟨a1, a2, a3, a4, a5, a6, a7, a8⟩ := flushD_ok n d.shift h1 h2
      refine ⟨a1, a2, a3, a4, a5, a6, ?_, ?_⟩ <;> simp [Dec.shift] at a7 a8 ⊢ <;> omega
    · rename_i he
      exact ⟨hb, he, rfl, rfl, rfl, rfl, by omega, by omega⟩
theorem dbit_ok (d : Dec) (c : Nat) : KdOk (d.bit c) := by unfold Dec.bit KdOk; split <;> simp
theorem dpart_ok {d : Dec} (h : d.Ok) {c : Nat} (hc : c < d.st.length) (bit : Int) (hb : KdOk bit) : BdOk (d.part c bit).lo (d.part c bit).hi ∧ Wide 4 (d.part c bit).lo (d.part c bit).hi :=
  part_ok (e := ⟨d.kd, d.st, d.lo, d.hi, []⟩) ⟨h.1, h.2.1, h.2.2.1⟩ hc hb
theorem dnext_ok {d : Dec} (h : d.Ok) {c : Nat} (hc : c < d.st.length) : BdOk (d.next c).lo (d.next c).hi ∧ (d.next c).lo / 16777216 ≠ (d.next c).hi / 16777216 ∧ (d.next c).kd = d.kd ∧ (d.next c).st = d.st.set c (Go.Proofs.Ytbfefpkhalegmaa.after d.kd (d.st.getD c 0) (d.bit c)) ∧ (d.next c).code = d.code ∧
    (d.next c).dead = d.dead ∧ (d.next c).pos ≤ d.pos + 4 ∧ d.pos ≤ (d.next c).pos := by
  obtain ⟨h1, h2⟩ := dpart_ok h hc _ (dbit_ok d c)
  exact flushD_ok 4 _ h1 h2
theorem dafter_ok {d : Dec} (h : d.Ok) {c : Nat} (hc : c < d.st.length) : (d.after c).Ok ∧ (d.after c).kd = d.kd ∧ (d.after c).st.length = d.st.length ∧ (d.after c).code = d.code := by
  unfold Dec.after
  split
  · exact ⟨h, rfl, rfl, rfl⟩
  · rename_i hf
    obtain ⟨a1, a2, a3, a4, a5, a6, a7, a8⟩ := dnext_ok h hc
    have hs : (d.next c).st.length = d.st.length := by rw [a4]; simp
    refine ⟨⟨?_, a1, a2, by rw [a5]; exact h.2.2.2.1, ?_⟩, a3, hs, a5⟩
    · rw [a3]
      refine ⟨h.1.1, by rw [hs]; exact h.1.2.1, fun s hs => ?_⟩
      rw [a4] at hs
      rcases List.mem_or_eq_of_mem_set hs with hs | rfl
      · exact h.1.2.2 s hs
      · exact after_ok h.1.1 (h.1.get hc) (dbit_ok d c)
    · unfold Dec.fails at hf
      simp at hf
      rw [a5]; exact hf.2
theorem win_bd {b : List Int} (h : ByOk b) (i : Nat) : 0 ≤ win b i ∧ win b i ≤ 4294967295 := by
  have h0 := h.get i
  have h1 := h.get (i + 1)
  have h2 := h.get (i + 2)
  have h3 := h.get (i + 3)
  unfold win; omega
theorem win_step {b : List Int} (h : ByOk b) (i : Nat) : win b i % 16777216 * 256 + b.getD (i + 4) 0 = win b (i + 1) := by
  have h0 := h.get i
  have h1 := h.get (i + 1)
  have h2 := h.get (i + 2)
  have h3 := h.get (i + 3)
  unfold win
  rw [show i + 1 + 1 = i + 2 by omega, show i + 1 + 2 = i + 3 by omega, show i + 1 + 3 = i + 4 by omega]
  omega

theorem c_rGet (d : Dec) (hd : d.Ok) (c : Nat) (hc : c < d.st.length) (hcl : d.code.length ≤ 1099511627776) :
    LCall Try.prog 113 [.ptr 0 0, .int .i64 c] (rDecL d) fun r L => r = .tup [.int .i64 (d.got c), .int .i64 (d.err c)] ∧ L = rDecL (d.after c) := by
  obtain ⟨kd, st, lo, hi, code, pos, dead⟩ := d
  simp only at hc hcl
  have hs := hd.1.get hc
  have hl := likely_bd hd.1.1 hs
  have hlc := hd.1.2.1
  have hby : ByOk code := hd.2.2.2.1
  have hpos : pos ≤ code.length := hd.2.2.2.2
  have hwb := win_bd hby pos
  simp only at hlc hs hl
  have e1 : decide ((c : Int) < 0) = false := decide_eq_false (by omega)
  have e2 : decide ((st.length : Int) ≤ (c : Int)) = false := decide_eq_false (by omega)
  refine lcall_of_vc tyok Try.func113 rfl (by rfl) Try.results113 Try.ntmps113 ?_; intro C hD
  simp only [rDecL, rDecC] at hD ⊢
  simp (maxSteps := 2000000) only [↓vP0, vQ0, vT0, simprocAttr, e1, e2]
  cases dead with
  | true =>
    simp (maxSteps := 2000000) only [↓vP0, vQ0, vT0, simprocAttr]
    refine exit_keep0 ⟨by simp [Dec.got, Dec.err, Dec.fails], by simp [Dec.after, Dec.fails]⟩ ?_ ?_
    · simp [ren, rens, sg, sig, okIn, okIns, exK, leK, leF, leV, matK, objM, renO, roSame, lh, born, AObj.born, AObj.live, injOk, kindOf, rens_ints, okIns_ints, List.range, List.range.loop, mrg, mset]
    · simp [keepL, keepO, okIns, okIn, okIns_ints]
  | false =>
    simp (maxSteps := 2000000) only [↓vP0, vQ0, vT0, simprocAttr]
    refine drawK_of tyok rfl (usL []) (fun i => .below 0) (by kernel_rfl) ?_
    simp (maxSteps := 2000000) only [↓vP0, vQ0, vT0, simprocAttr]
    refine chk_intro (by omega) ?_
    simp (maxSteps := 2000000) only [↓vP0, vQ0, vT0, simprocAttr, ints_get _ _ _ hc]
    refine callK_pure (c_Likely kd _ hd.1.1 hs) rfl rfl ?_
    simp (maxSteps := 2000000) only [↓vP0, vQ0, vT0, simprocAttr]
    refine drawK_of tyok rfl (usL [[], [], [], [9]]) (fun i => .below 3) (by kernel_rfl) ?_
    simp (maxSteps := 2000000) only [↓vP0, vQ0, vT0, simprocAttr]
    refine callK_pure (c_Mid lo hi _ hd.2.1 (by omega) (by omega)) rfl rfl ?_
    simp (maxSteps := 2000000) only [↓vP0, vQ0, vT0, simprocAttr]
    (with_reducible first | refine condK_dec (fun h => ?_) (fun h => ?_) | refine condK_beq (fun h => ?_) (fun h => ?_) | refine condK_bne (fun h => ?_) (fun h => ?_) | refine condK_intro (fun h => ?_) (fun h => ?_))
    · have hbit : Dec.bit ⟨kd, st, lo, hi, code, pos, false⟩ c = 1 := by first | exact if_pos h | exact if_neg h
      have hk := dbit_ok ⟨kd, st, lo, hi, code, pos, false⟩ c
      have hpart := dpart_ok hd hc _ hk
      have hnx := dnext_ok hd hc
      rw [hbit] at hk hpart
      simp (maxSteps := 2000000) only [↓vP0, vQ0, vT0, simprocAttr]
      refine drawK_of tyok rfl (usL [[], [], [], [15], [], [], [], [], [], [], [15, 16], [], [], [], [15, 16]])
        (fun i => if i = 6 then .val (ivl (Dec.part ⟨kd, st, lo, hi, code, pos, false⟩ c 1).lo (Dec.part ⟨kd, st, lo, hi, code, pos, false⟩ c 1).hi) else .below 3) (by kernel_rfl) ?_
      simp (maxSteps := 2000000) only [↓vP0, vQ0, vT0, simprocAttr]
      refine pureK_of (c_Part lo hi _ _ hd.2.1 (by omega) (by omega)) rfl rfl ?_
      simp (maxSteps := 2000000) only [↓vP0, vQ0, vT0, simprocAttr]
      refine loopK_of tyok hD (α := Nat × Dec) (fun s => flushD s.1 s.2 = Dec.next ⟨kd, st, lo, hi, code, pos, false⟩ c ∧ BdOk s.2.lo s.2.hi ∧ Wide s.1 s.2.lo s.2.hi ∧ s.2.code = code ∧ s.2.pos + s.1 ≤ pos + 4) (fun s => s.1)
        (fun s => [.ptr 0 0, .int .i64 c, .junk, .junk, .junk, .junk, .junk, .int .i64 1, .ptr 3 0, .int .i64 ((s.2.pos : Int) + 4), .int .u64 (win code s.2.pos), .junk, .junk, .junk, .junk, .junk, .junk, .junk, .junk, .junk, .junk, .junk, .junk, .junk, .junk, .junk, .junk, .junk, .junk, .junk, .junk, .junk, .junk, .junk, .junk, .junk, .junk, .junk, .junk, .junk, .junk, .junk, .junk, .junk, .junk, .junk, .junk, .junk, .junk, .junk, .junk, .junk, .junk, .junk, .junk, .junk, .junk, .junk, .junk, .junk, .junk, .junk, .junk, .junk, .junk, .junk, .junk, .junk, .junk, .junk, .junk, .junk, .junk, .junk, .junk, .junk, .junk, .junk, .junk, .junk, .junk, .junk, .junk, .junk, .junk, .junk, .junk, .junk, .junk, .junk, .junk, .junk, .junk, .junk, .junk, .junk, .junk, .junk, .junk, .junk, .junk, .junk, .junk, .junk, .junk, .junk, .junk, .junk, .junk, .junk, .junk, .junk, .junk, .junk, .junk, .junk, .junk, .junk, .junk, .junk, .junk, .junk, .junk, .junk, .junk, .junk, .junk, .junk, .junk, .junk, .junk, .junk, .junk, .junk, .junk, .junk, .junk, .junk])
        (fun s => [.own [.int .i64 kd, .slice 1 0 st.length, .int .u64 lo, .int .u64 hi, .slice 2 0 code.length, .int .i64 ((pos : Int) + 4), .int .u64 (win code pos), .int .i64 (beyI ⟨kd, st, lo, hi, code, pos, false⟩), .bool false] 158,
          .own (ints .i64 st) 3, .ro (ints .u8 code) 5, .own [.int .u64 s.2.lo, .int .u64 s.2.hi] 129])
        (4, Dec.part ⟨kd, st, lo, hi, code, pos, false⟩ c 1) ⟨by unfold Dec.next; rw [hbit], hpart.1, hpart.2, rfl, by simp [Dec.part]⟩ (by simp only [Dec.part]; (refine ⟨by simp [leF, leV] <;> rfl, ⟨_, by first | rfl | exact (List.append_nil _).symm⟩, by simp, by simp [okIns, okIn, okIns_ints], by simp [AObj.born, okIns, okIn, AObj.cells, okIns_ints]⟩)) ?_
      rintro ⟨n, kd', st', lo', hi', code', pos', dead'⟩ ⟨hf, hbd, hw, hcd, hps⟩
      simp only at hf hbd hw hcd hps
      subst hcd
      have hwb' := win_bd hby pos'
      have hgb := hby.get (pos' + 4)
      have ⟨w1, w2, w3⟩ := hbd
      simp (maxSteps := 2000000) only [↓vP0, vQ0, vT0, simprocAttr]
      refine callK_pure (c_Fixed lo' hi' hbd) rfl rfl ?_
      simp (maxSteps := 2000000) only [↓vP0, vQ0, vT0, simprocAttr]
      (with_reducible first | refine condK_dec (fun h => ?_) (fun h => ?_) | refine condK_beq (fun h => ?_) (fun h => ?_) | refine condK_bne (fun h => ?_) (fun h => ?_) | refine condK_intro (fun h => ?_) (fun h => ?_))
      · cases n with
        | zero => exact absurd h (hw.zero hbd)
        | succ n =>
          simp (maxSteps := 2000000) only [↓vP0, vQ0, vT0, simprocAttr]
          refine callK_pure (c_Shifted lo' hi' hbd) rfl rfl ?_
          simp (maxSteps := 2000000) only [↓vP0, vQ0, vT0, simprocAttr]
          refine callK_read (c_byteAt code' hby hcl (pos' + 4)) [2] ?_ ?_ ?_ rfl ?_
          · simp [ren, rens, sg, sig, okIn, okIns, exK, leK, leF, leV, matK, objM, renO, roSame, lh, born, AObj.born, AObj.live, injOk, kindOf, rens_ints, okIns_ints, List.range, List.range.loop, mrg, mset, Int.natCast_add]
          · simp [ren, rens, sg, sig, okIn, okIns, exK, leK, leF, leV, matK, objM, renO, roSame, lh, born, AObj.born, AObj.live, injOk, kindOf, rens_ints, okIns_ints, List.range, List.range.loop, mrg, mset]
          · simp [ren, rens, sg, sig, okIn, okIns, exK, leK, leF, leV, matK, objM, renO, roSame, lh, born, AObj.born, AObj.live, injOk, kindOf, rens_ints, okIns_ints, List.range, List.range.loop, mrg, mset]
          simp (maxSteps := 2000000) only [↓vP0, vQ0, vT0, simprocAttr]
          have ⟨s1, s2⟩ := hw.shift (e := ⟨kd', st', lo', hi', []⟩) hbd h
          refine ⟨(n, Dec.shift ⟨kd', st', lo', hi', code', pos', dead'⟩), ⟨by rw [← hf]; simp [flushD, h], s1, s2, rfl, by simp [Dec.shift]; omega⟩, by simp, ?_⟩
          have hws := win_step hby pos'
          simp (disch := omega) only [wr64, wru64, tmd]
          rw [hws]
          simp only [Dec.shift, Int.natCast_add, Int.cast_ofNat_Int, Int.add_right_comm (pos' : Int) 4 1]
          (refine ⟨by simp [leF, leV] <;> rfl, ⟨_, by first | rfl | exact (List.append_nil _).symm⟩, by simp, by simp [okIns, okIn, okIns_ints], by simp [AObj.born, okIns, okIn, AObj.cells, okIns_ints]⟩)
      · have hfl : flushD n ⟨kd', st', lo', hi', code', pos', dead'⟩ = ⟨kd', st', lo', hi', code', pos', dead'⟩ := by cases n <;> simp [flushD, h]
        rw [hfl] at hf
        rw [← hf, hbit] at hnx
        simp only at hnx
        obtain ⟨-, -, hkd, hst, -, hdd, -, -⟩ := hnx
        replace hkd := hkd.symm
        subst hkd; subst hst; subst hdd
        simp (maxSteps := 2000000) only [↓vP0, vQ0, vT0, simprocAttr]
        rw [wr64 _ (by omega) (by omega)]
        (with_reducible first | refine condK_dec (fun h => ?_) (fun h => ?_) | refine condK_beq (fun h => ?_) (fun h => ?_) | refine condK_bne (fun h => ?_) (fun h => ?_) | refine condK_intro (fun h => ?_) (fun h => ?_))
        · simp (maxSteps := 2000000) only [↓vP0, vQ0, vT0, simprocAttr]
          have hfa : Dec.fails ⟨kd, st, lo, hi, code', pos, false⟩ c = true := by
            unfold Dec.fails; rw [← hf]; simp; omega
          refine exit_of [] (.tup [.int .i64 0, .int .i64 6]) (rDecL (Dec.after ⟨kd, st, lo, hi, code', pos, false⟩ c)) ⟨by simp [Dec.got, Dec.err, hfa], rfl⟩ ?_ ?_ ?_ ?_ ?_
          all_goals ((try simp only [Dec.after, hfa, if_true]); simp [ren, rens, sg, sig, okIn, okIns, exK, leK, leF, leV, matK, objM, renO, roSame, lh, born, AObj.born, AObj.live, injOk, kindOf, rens_ints, okIns_ints, List.range, List.range.loop, mrg, mset, rDecL, rDecC, beyI])
        · have hfa : Dec.fails ⟨kd, st, lo, hi, code', pos, false⟩ c = false := by
            unfold Dec.fails; rw [← hf]; simp; omega
          simp (maxSteps := 2000000) only [↓vP0, vQ0, vT0, simprocAttr]
          refine drawK_of tyok rfl (usL [[], [], [], [], [20]]) (fun i => if i = 20 then .below 3 else .below 0) (by kernel_rfl) ?_
          simp (maxSteps := 2000000) only [↓vP0, vQ0, vT0, simprocAttr]
          refine chk_intro (by omega) ?_
          simp (maxSteps := 2000000) only [↓vP0, vQ0, vT0, simprocAttr, ints_get _ _ _ hc]
          refine callK_pure (c_After kd _ _ hd.1.1 hs hk) rfl rfl ?_
          simp (maxSteps := 2000000) only [↓vP0, vQ0, vT0, simprocAttr]
          refine chk_intro (by omega) ?_
          simp (maxSteps := 2000000) only [↓vP0, vQ0, vT0, simprocAttr]
          refine chk_intro (by omega) ?_
          simp (maxSteps := 2000000) only [↓vP0, vQ0, vT0, simprocAttr]
          refine exit_of [] (.tup [.int .i64 1, .int .i64 0]) (rDecL (Dec.after ⟨kd, st, lo, hi, code', pos, false⟩ c)) ⟨by simp [Dec.got, Dec.err, hfa, hbit], rfl⟩ ?_ ?_ ?_ ?_ ?_
          all_goals ((try simp only [Dec.after, hfa, if_false, Bool.false_eq_true]); (try rw [← hf]); simp [ren, rens, sg, sig, okIn, okIns, exK, leK, leF, leV, matK, objM, renO, roSame, lh, born, AObj.born, AObj.live, injOk, kindOf, rens_ints, okIns_ints, List.range, List.range.loop, mrg, mset, rDecL, rDecC, beyI])
    · have hbit : Dec.bit ⟨kd, st, lo, hi, code, pos, false⟩ c = 0 := by first | exact if_pos h | exact if_neg h
      have hk := dbit_ok ⟨kd, st, lo, hi, code, pos, false⟩ c
      have hpart := dpart_ok hd hc _ hk
      have hnx := dnext_ok hd hc
      rw [hbit] at hk hpart
      simp (maxSteps := 2000000) only [↓vP0, vQ0, vT0, simprocAttr]
      refine drawK_of tyok rfl (usL [[], [], [], [15], [], [], [], [], [], [], [15, 16], [], [], [], [15, 16]])
        (fun i => if i = 6 then .val (ivl (Dec.part ⟨kd, st, lo, hi, code, pos, false⟩ c 0).lo (Dec.part ⟨kd, st, lo, hi, code, pos, false⟩ c 0).hi) else .below 3) (by kernel_rfl) ?_
      simp (maxSteps := 2000000) only [↓vP0, vQ0, vT0, simprocAttr]
      refine pureK_of (c_Part lo hi _ _ hd.2.1 (by omega) (by omega)) rfl rfl ?_
      simp (maxSteps := 2000000) only [↓vP0, vQ0, vT0, simprocAttr]
      refine loopK_of tyok hD (α := Nat × Dec) (fun s => flushD s.1 s.2 = Dec.next ⟨kd, st, lo, hi, code, pos, false⟩ c ∧ BdOk s.2.lo s.2.hi ∧ Wide s.1 s.2.lo s.2.hi ∧ s.2.code = code ∧ s.2.pos + s.1 ≤ pos + 4) (fun s => s.1)
        (fun s => [.ptr 0 0, .int .i64 c, .junk, .junk, .junk, .junk, .junk, .int .i64 0, .ptr 3 0, .int .i64 ((s.2.pos : Int) + 4), .int .u64 (win code s.2.pos), .junk, .junk, .junk, .junk, .junk, .junk, .junk, .junk, .junk, .junk, .junk, .junk, .junk, .junk, .junk, .junk, .junk, .junk, .junk, .junk, .junk, .junk, .junk, .junk, .junk, .junk, .junk, .junk, .junk, .junk, .junk, .junk, .junk, .junk, .junk, .junk, .junk, .junk, .junk, .junk, .junk, .junk, .junk, .junk, .junk, .junk, .junk, .junk, .junk, .junk, .junk, .junk, .junk, .junk, .junk, .junk, .junk, .junk, .junk, .junk, .junk, .junk, .junk, .junk, .junk, .junk, .junk, .junk, .junk, .junk, .junk, .junk, .junk, .junk, .junk, .junk, .junk, .junk, .junk, .junk, .junk, .junk, .junk, .junk, .junk, .junk, .junk, .junk, .junk, .junk, .junk, .junk, .junk, .junk, .junk, .junk, .junk, .junk, .junk, .junk, .junk, .junk, .junk, .junk, .junk, .junk, .junk, .junk, .junk, .junk, .junk, .junk, .junk, .junk, .junk, .junk, .junk, .junk, .junk, .junk, .junk, .junk, .junk, .junk, .junk, .junk, .junk])
        (fun s => [.own [.int .i64 kd, .slice 1 0 st.length, .int .u64 lo, .int .u64 hi, .slice 2 0 code.length, .int .i64 ((pos : Int) + 4), .int .u64 (win code pos), .int .i64 (beyI ⟨kd, st, lo, hi, code, pos, false⟩), .bool false] 158,
          .own (ints .i64 st) 3, .ro (ints .u8 code) 5, .own [.int .u64 s.2.lo, .int .u64 s.2.hi] 129])
        (4, Dec.part ⟨kd, st, lo, hi, code, pos, false⟩ c 0) ⟨by unfold Dec.next; rw [hbit], hpart.1, hpart.2, rfl, by simp [Dec.part]⟩ (by simp only [Dec.part]; (refine ⟨by simp [leF, leV] <;> rfl, ⟨_, by first | rfl | exact (List.append_nil _).symm⟩, by simp, by simp [okIns, okIn, okIns_ints], by simp [AObj.born, okIns, okIn, AObj.cells, okIns_ints]⟩)) ?_
      rintro ⟨n, kd', st', lo', hi', code', pos', dead'⟩ ⟨hf, hbd, hw, hcd, hps⟩
      simp only at hf hbd hw hcd hps
      subst hcd
      have hwb' := win_bd hby pos'
      have hgb := hby.get (pos' + 4)
      have ⟨w1, w2, w3⟩ := hbd
      simp (maxSteps := 2000000) only [↓vP0, vQ0, vT0, simprocAttr]
      refine callK_pure (c_Fixed lo' hi' hbd) rfl rfl ?_
      simp (maxSteps := 2000000) only [↓vP0, vQ0, vT0, simprocAttr]
      (with_reducible first | refine condK_dec (fun h => ?_) (fun h => ?_) | refine condK_beq (fun h => ?_) (fun h => ?_) | refine condK_bne (fun h => ?_) (fun h => ?_) | refine condK_intro (fun h => ?_) (fun h => ?_))
      · cases n with
        | zero => exact absurd h (hw.zero hbd)
        | succ n =>
          simp (maxSteps := 2000000) only [↓vP0, vQ0, vT0, simprocAttr]
          refine callK_pure (c_Shifted lo' hi' hbd) rfl rfl ?_
          simp (maxSteps := 2000000) only [↓vP0, vQ0, vT0, simprocAttr]
          refine callK_read (c_byteAt code' hby hcl (pos' + 4)) [2] ?_ ?_ ?_ rfl ?_
          · simp [ren, rens, sg, sig, okIn, okIns, exK, leK, leF, leV, matK, objM, renO, roSame, lh, born, AObj.born, AObj.live, injOk, kindOf, rens_ints, okIns_ints, List.range, List.range.loop, mrg, mset, Int.natCast_add]
          · simp [ren, rens, sg, sig, okIn, okIns, exK, leK, leF, leV, matK, objM, renO, roSame, lh, born, AObj.born, AObj.live, injOk, kindOf, rens_ints, okIns_ints, List.range, List.range.loop, mrg, mset]
          · simp [ren, rens, sg, sig, okIn, okIns, exK, leK, leF, leV, matK, objM, renO, roSame, lh, born, AObj.born, AObj.live, injOk, kindOf, rens_ints, okIns_ints, List.range, List.range.loop, mrg, mset]
          simp (maxSteps := 2000000) only [↓vP0, vQ0, vT0, simprocAttr]
          have ⟨s1, s2⟩ := hw.shift (e := ⟨kd', st', lo', hi', []⟩) hbd h
          refine ⟨(n, Dec.shift ⟨kd', st', lo', hi', code', pos', dead'⟩), ⟨by rw [← hf]; simp [flushD, h], s1, s2, rfl, by simp [Dec.shift]; omega⟩, by simp, ?_⟩
          have hws := win_step hby pos'
          simp (disch := omega) only [wr64, wru64, tmd]
          rw [hws]
          simp only [Dec.shift, Int.natCast_add, Int.cast_ofNat_Int, Int.add_right_comm (pos' : Int) 4 1]
          (refine ⟨by simp [leF, leV] <;> rfl, ⟨_, by first | rfl | exact (List.append_nil _).symm⟩, by simp, by simp [okIns, okIn, okIns_ints], by simp [AObj.born, okIns, okIn, AObj.cells, okIns_ints]⟩)
      · have hfl : flushD n ⟨kd', st', lo', hi', code', pos', dead'⟩ = ⟨kd', st', lo', hi', code', pos', dead'⟩ := by cases n <;> simp [flushD, h]
        rw [hfl] at hf
        rw [← hf, hbit] at hnx
        simp only at hnx
        obtain ⟨-, -, hkd, hst, -, hdd, -, -⟩ := hnx
        replace hkd := hkd.symm
        subst hkd; subst hst; subst hdd
        simp (maxSteps := 2000000) only [↓vP0, vQ0, vT0, simprocAttr]
        rw [wr64 _ (by omega) (by omega)]
        (with_reducible first | refine condK_dec (fun h => ?_) (fun h => ?_) | refine condK_beq (fun h => ?_) (fun h => ?_) | refine condK_bne (fun h => ?_) (fun h => ?_) | refine condK_intro (fun h => ?_) (fun h => ?_))
        · simp (maxSteps := 2000000) only [↓vP0, vQ0, vT0, simprocAttr]
          have hfa : Dec.fails ⟨kd, st, lo, hi, code', pos, false⟩ c = true := by
            unfold Dec.fails; rw [← hf]; simp; omega
          refine exit_of [] (.tup [.int .i64 0, .int .i64 6]) (rDecL (Dec.after ⟨kd, st, lo, hi, code', pos, false⟩ c)) ⟨by simp [Dec.got, Dec.err, hfa], rfl⟩ ?_ ?_ ?_ ?_ ?_
          all_goals ((try simp only [Dec.after, hfa, if_true]); simp [ren, rens, sg, sig, okIn, okIns, exK, leK, leF, leV, matK, objM, renO, roSame, lh, born, AObj.born, AObj.live, injOk, kindOf, rens_ints, okIns_ints, List.range, List.range.loop, mrg, mset, rDecL, rDecC, beyI])
        · have hfa : Dec.fails ⟨kd, st, lo, hi, code', pos, false⟩ c = false := by
            unfold Dec.fails; rw [← hf]; simp; omega
          simp (maxSteps := 2000000) only [↓vP0, vQ0, vT0, simprocAttr]
          refine drawK_of tyok rfl (usL [[], [], [], [], [20]]) (fun i => if i = 20 then .below 3 else .below 0) (by kernel_rfl) ?_
          simp (maxSteps := 2000000) only [↓vP0, vQ0, vT0, simprocAttr]
          refine chk_intro (by omega) ?_
          simp (maxSteps := 2000000) only [↓vP0, vQ0, vT0, simprocAttr, ints_get _ _ _ hc]
          refine callK_pure (c_After kd _ _ hd.1.1 hs hk) rfl rfl ?_
          simp (maxSteps := 2000000) only [↓vP0, vQ0, vT0, simprocAttr]
          refine chk_intro (by omega) ?_
          simp (maxSteps := 2000000) only [↓vP0, vQ0, vT0, simprocAttr]
          refine chk_intro (by omega) ?_
          simp (maxSteps := 2000000) only [↓vP0, vQ0, vT0, simprocAttr]
          refine exit_of [] (.tup [.int .i64 0, .int .i64 0]) (rDecL (Dec.after ⟨kd, st, lo, hi, code', pos, false⟩ c)) ⟨by simp [Dec.got, Dec.err, hfa, hbit], rfl⟩ ?_ ?_ ?_ ?_ ?_
          all_goals ((try simp only [Dec.after, hfa, if_false, Bool.false_eq_true]); (try rw [← hf]); simp [ren, rens, sg, sig, okIn, okIns, exK, leK, leF, leV, matK, objM, renO, roSame, lh, born, AObj.born, AObj.live, injOk, kindOf, rens_ints, okIns_ints, List.range, List.range.loop, mrg, mset, rDecL, rDecC, beyI])
end Go.Proofs.Ytbfefpkhalegmaa

set_option linter.unusedVariables false
set_option linter.unusedSimpArgs false
namespace Go.Proofs.Ytbfefpkhalegmaa
open Go
set_option maxHeartbeats 4000000
set_option maxRecDepth 20000

theorem or_byte (a b : Int) (h0 : 0 ≤ a) (h1 : a < 18446744073709551616) (h2 : a % 256 = 0) (hb : 0 ≤ b) (hb' : b ≤ 255) : orI 64 a b = a + b := by
  unfold orI
  obtain ⟨n, rfl⟩ := Int.eq_ofNat_of_zero_le h0
  obtain ⟨k, rfl⟩ := Int.eq_ofNat_of_zero_le hb
  rw [BitVec.toNat_or, BitVec.toNat_ofInt, BitVec.toNat_ofInt]
  have e1 : ((n : Int) % (2 ^ 64 : Nat)).toNat = n := by
    have : ((2 ^ 64 : Nat) : Int) = 18446744073709551616 := by decide
    rw [this]; omega
  have e2 : ((k : Int) % (2 ^ 64 : Nat)).toNat = k := by
    have : ((2 ^ 64 : Nat) : Int) = 18446744073709551616 := by decide
    rw [this]; omega
  rw [e1, e2]
  obtain ⟨m, rfl⟩ : ∃ m, n = 2 ^ 8 * m := ⟨n / 256, by omega⟩
  rw [← Nat.two_pow_add_eq_or_of_lt (by omega) m]
  omega

def pDecX (kd : Int) (st : List Int) (lo hi : Int) (code : List Int) (s k at_ : Nat) (v bey : Int) (e : Bool) : List AV :=
  ivC kd s st.length lo hi [.slice k 0 code.length, .int .i64 at_, .int .u64 v, .int .i64 bey, .bool e, .bool true]

theorem c_shift (kd : Int) (st : List Int) (lo hi : Int) (code : List Int) (a : Nat) (v bey : Int) (e : Bool) (hc : code.length ≤ 1099511627776) (ha : a ≤ 2199023255552) (hby : ByOk code) (hv : 0 ≤ v ∧ v ≤ 4294967295) (hbe : 0 ≤ bey ∧ bey ≤ 2199023255552) :
    LCall Try.prog 108 [.ptr 0 0] [.own (pDecX kd st lo hi code 1 2 a v bey e) 154, .ro (ints .i64 st) 3, .ro (ints .u8 code) 5] fun r L => r = .tup [] ∧
      L = [.own (pDecX kd st lo hi code 1 2 (a + 1) (v % 16777216 * 256 + code.getD a 0) (bey + if a < code.length then 0 else 1) e) 154, .ro (ints .i64 st) 3, .ro (ints .u8 code) 5] := by
  have hg := hby.get a
  refine lcall_of_vc tyok Try.func108 rfl (by rfl) Try.results108 Try.ntmps108 ?_; intro C hD
  simp only [pDecX] at hD ⊢
  have e2 : v * 256 % 4294967296 = v % 16777216 * 256 := by omega
  simp (maxSteps := 2000000) only [↓vP0, vQ0, vT0, simprocAttr, vI]
  refine drawK_of tyok rfl (usL []) (fun i => .below 0) (by kernel_rfl) ?_
  simp (maxSteps := 2000000) only [↓vP0, vQ0, vT0, simprocAttr, vI]
  (with_reducible first | refine condK_dec (fun h => ?_) (fun h => ?_) | refine condK_beq (fun h => ?_) (fun h => ?_) | refine condK_bne (fun h => ?_) (fun h => ?_) | refine condK_intro (fun h => ?_) (fun h => ?_))
  · have ha' : a < code.length := by omega
    simp (maxSteps := 2000000) only [↓vP0, vQ0, vT0, simprocAttr, vI]
    refine drawK_of tyok rfl (usL []) (fun i => .below 0) (by kernel_rfl) ?_
    simp (maxSteps := 2000000) only [↓vP0, vQ0, vT0, simprocAttr, vI]
    refine chk_intro (by omega) ?_
    simp (maxSteps := 2000000) only [↓vP0, vQ0, vT0, simprocAttr, vI, ints_get _ _ _ ha']
    simp (disch := omega) only [wr64, wru64, and_32, e2]
    rw [or_byte _ _ (by omega) (by omega) (by omega) (by omega) (by omega)]
    simp (disch := omega) only [wru64]
    refine exit_keep0 ⟨rfl, ?_⟩ trivial ?_
    · simp only [if_pos ha', Int.natCast_add, Int.add_zero]; rfl
    · simp [keepL, keepO, ivC_okIns, okIns, okIn, okIns_ints]
  · have ha' : ¬ a < code.length := by omega
    have hz : code.getD a 0 = 0 := by rw [List.getD_eq_getElem?_getD, List.getElem?_eq_none (by omega)]; rfl
    simp (maxSteps := 2000000) only [↓vP0, vQ0, vT0, simprocAttr, vI]
    simp (disch := omega) only [wr64, wru64, and_32, e2]
    rw [or_byte _ _ (by omega) (by omega) (by omega) (by omega) (by omega)]
    simp (disch := omega) only [wru64]
    refine exit_keep0 ⟨rfl, ?_⟩ trivial ?_
    · simp only [if_neg ha', Int.natCast_add, hz]; rfl
    · simp [keepL, keepO, ivC_okIns, okIns, okIn, okIns_ints]

/-- The decoder's cells; its states are object s, its code is object k. -/
def pDecC (d : Dec) (s k : Nat) : List AV := pDecX d.kd d.st d.lo d.hi d.code s k (d.pos + 4) (win d.code d.pos) (beyI d) d.dead
theorem pDecC_rens (σ : Nat → Nat) (d : Dec) (s k : Nat) : rens σ (pDecC d s k) = pDecC d (σ s) (σ k) := by simp [pDecC, pDecX, ivC_rens, rens, ren]
theorem pDecC_okIns (B : Nat → Prop) (d : Dec) (s k : Nat) : okIns B (pDecC d s k) = (B s ∧ B k) := by simp [pDecC, pDecX, ivC_okIns, okIns, okIn]
theorem pDecC_inj (d : Dec) (s k s' k' : Nat) : (pDecC d s k = pDecC d s' k') = (s = s' ∧ k = k') := by simp [pDecC, pDecX, ivC_inj]
def pDecL (d : Dec) : List AObj := [.own (pDecC d 1 2) 154, .own (ints .i64 d.st) 3, .ro (ints .u8 d.code) 5]
def pDecR (d : Dec) : List AObj := [.ro (pDecC d 1 2) 154, .ro (ints .i64 d.st) 3, .ro (ints .u8 d.code) 5]
theorem keep_pDecR (d : Dec) : keepL 3 (pDecR d) (pDecR d) := by
  refine ⟨⟨rfl, ?_⟩, ⟨rfl, ?_⟩, ⟨rfl, ?_⟩, trivial⟩
  · rw [pDecC_okIns]; omega
  · rw [okIns_ints]; trivial
  · rw [okIns_ints]; trivial

theorem c_pDNoneNil : LCall Try.prog 109 [.nilptr] [] fun r L => r = .bool true ∧ L = [] := by
  refine lcall_of_vc tyok Try.func109 rfl (by rfl) Try.results109 Try.ntmps109 ?_; intro C hD
  simp (maxSteps := 2000000) only [↓vP0, vQ0, vT0, simprocAttr]
  exact exit_keep0 ⟨rfl, rfl⟩ trivial trivial
theorem c_pDNone (d : Dec) : LCall Try.prog 109 [.ptr 0 0] (pDecR d) fun r L => r = .bool false ∧ L = pDecR d := by
  refine lcall_of_vc tyok Try.func109 rfl (by rfl) Try.results109 Try.ntmps109 ?_; intro C hD
  simp only [pDecR, pDecC, pDecX] at hD ⊢
  simp (maxSteps := 2000000) only [↓vP0, vQ0, vT0, simprocAttr, vI]
  exact exit_keep0 ⟨rfl, rfl⟩ trivial (keep_pDecR d)
theorem c_pGetNil (c : Int) : LCall Try.prog 48 [.nilptr, .int .i64 c] [] fun r L => r = .tup [.int .i64 0, .int .i64 7] ∧ L = [] := by
  refine lcall_of_vc tyok Try.func48 rfl (by rfl) Try.results48 Try.ntmps48 ?_; intro C hD
  simp (maxSteps := 2000000) only [↓vP0, vQ0, vT0, simprocAttr]
  refine callK_pure c_pDNoneNil rfl rfl ?_
  simp (maxSteps := 2000000) only [↓vP0, vQ0, vT0, simprocAttr]
  exact exit_keep0 ⟨rfl, rfl⟩ ⟨trivial, trivial, trivial⟩ trivial
theorem c_pGetBad (d : Dec) : LCall Try.prog 48 [.ptr 0 0, .int .i64 (-1)] (pDecR d) fun r L => r = .tup [.int .i64 0, .int .i64 2] ∧ L = pDecR d := by
  have cn := c_pDNone d
  refine lcall_of_vc tyok Try.func48 rfl (by rfl) Try.results48 Try.ntmps48 ?_; intro C hD
  simp only [pDecR, pDecC, pDecX] at hD cn ⊢
  simp (maxSteps := 2000000) only [↓vP0, vQ0, vT0, simprocAttr]
  refine callK_read cn [0, 1, 2] ?_ ?_ ?_ rfl ?_
  · simp [ren, rens, sg, sig, okIn, okIns, exK, leK, leF, leV, matK, objM, renO, roSame, lh, born, AObj.born, AObj.live, injOk, kindOf, rens_ints, okIns_ints, List.range, List.range.loop, mrg, mset]
  · simp [ren, rens, sg, sig, okIn, okIns, exK, leK, leF, leV, matK, objM, renO, roSame, lh, born, AObj.born, AObj.live, injOk, kindOf, rens_ints, okIns_ints, List.range, List.range.loop, mrg, mset]
  · simp [ren, rens, sg, sig, okIn, okIns, exK, leK, leF, leV, matK, objM, renO, roSame, lh, born, AObj.born, AObj.live, injOk, kindOf, rens_ints, okIns_ints, List.range, List.range.loop, mrg, mset, ivC_inj, ivC_rens, ivC_okIns]
  simp (maxSteps := 2000000) only [↓vP0, vQ0, vT0, simprocAttr, vI]
  exact exit_keep0 ⟨rfl, rfl⟩ ⟨trivial, trivial, trivial⟩ (keep_pDecR d)
theorem c_pDModel (d : Dec) (hl : d.st.length ≤ 8192) : LCall Try.prog 61 [.ptr 0 0] (pDecR d) fun r L => r = .agg [.int .i64 d.kd, .slice 3 0 d.st.length] ∧ L = pDecR d ++ [.own (ints .i64 d.st) 3] := by
  have cn := c_pDNone d
  refine lcall_of_vc tyok Try.func61 rfl (by rfl) Try.results61 Try.ntmps61 ?_; intro C hD
  simp only [pDecR, pDecC, pDecX] at hD cn ⊢
  simp (maxSteps := 2000000) only [↓vP0, vQ0, vT0, simprocAttr]
  refine callK_read cn [0, 1, 2] ?_ ?_ ?_ rfl ?_
  · simp [ren, rens, sg, sig, okIn, okIns, exK, leK, leF, leV, matK, objM, renO, roSame, lh, born, AObj.born, AObj.live, injOk, kindOf, rens_ints, okIns_ints, List.range, List.range.loop, mrg, mset]
  · simp [ren, rens, sg, sig, okIn, okIns, exK, leK, leF, leV, matK, objM, renO, roSame, lh, born, AObj.born, AObj.live, injOk, kindOf, rens_ints, okIns_ints, List.range, List.range.loop, mrg, mset]
  · simp [ren, rens, sg, sig, okIn, okIns, exK, leK, leF, leV, matK, objM, renO, roSame, lh, born, AObj.born, AObj.live, injOk, kindOf, rens_ints, okIns_ints, List.range, List.range.loop, mrg, mset, ivC_inj, ivC_rens, ivC_okIns]
  simp (maxSteps := 2000000) only [↓vP0, vQ0, vT0, simprocAttr, vI]
  refine callK_det (c_pClone d.kd d.st (by omega)) [1] ?_ ?_ ?_ rfl (by simp) ?_
  · simp [ren, rens, sg, sig, okIn, okIns, exK, leK, leF, leV, matK, objM, renO, roSame, lh, born, AObj.born, AObj.live, injOk, kindOf, rens_ints, okIns_ints, List.range, List.range.loop, mrg, mset]
  · simp [ren, rens, sg, sig, okIn, okIns, exK, leK, leF, leV, matK, objM, renO, roSame, lh, born, AObj.born, AObj.live, injOk, kindOf, rens_ints, okIns_ints, List.range, List.range.loop, mrg, mset]
  · simp [ren, rens, sg, sig, okIn, okIns, exK, leK, leF, leV, matK, objM, renO, roSame, lh, born, AObj.born, AObj.live, injOk, kindOf, rens_ints, okIns_ints, List.range, List.range.loop, mrg, mset]
  simp (maxSteps := 2000000) only [↓vP0, vQ0, vT0, simprocAttr]
  refine exit_of [4] (.agg [.int .i64 d.kd, .slice 3 0 d.st.length]) (pDecR d ++ [.own (ints .i64 d.st) 3]) ⟨rfl, rfl⟩ ?_ ?_ rfl ?_ ?_
  all_goals simp [ren, rens, sg, sig, okIn, okIns, exK, leK, leF, leV, matK, objM, renO, roSame, lh, born, AObj.born, AObj.live, injOk, kindOf, rens_ints, okIns_ints, List.range, List.range.loop, mrg, mset, pDecR, pDecC, pDecX, ivC_inj, ivC_rens, ivC_okIns]

theorem c_pNewDecoder (kd : Int) (st code : List Int) (h : StsOk kd st) (hb : ByOk code) (hc : code.length ≤ 1099511627776) :
    LCall Try.prog 47 [.agg [.int .i64 kd, .slice 0 0 st.length], .slice 1 0 code.length] [.ro (ints .i64 st) 3, .ro (ints .u8 code) 5] fun r L =>
    r = .tup [.ptr 2 0, .int .i64 0] ∧ L = [.ro (ints .i64 st) 3, .ro (ints .u8 code) 5, .own (pDecC (decNew kd st code) 3 4) 154, .own (ints .i64 st) 3, .own (ints .u8 code) 5] := by
  have hl := h.2.1
  refine lcall_of_vc tyok Try.func47 rfl (by rfl) Try.results47 Try.ntmps47 ?_; intro C hD
  simp (maxSteps := 2000000) only [↓vP0, vQ0, vT0, simprocAttr]
  refine callK_read (c_pValid kd st h) [0] ?_ ?_ ?_ rfl ?_
  · simp [ren, rens, sg, sig, okIn, okIns, exK, leK, leF, leV, matK, objM, renO, roSame, lh, born, AObj.born, AObj.live, injOk, kindOf, rens_ints, okIns_ints, List.range, List.range.loop, mrg, mset]
  · simp [ren, rens, sg, sig, okIn, okIns, exK, leK, leF, leV, matK, objM, renO, roSame, lh, born, AObj.born, AObj.live, injOk, kindOf, rens_ints, okIns_ints, List.range, List.range.loop, mrg, mset]
  · simp [ren, rens, sg, sig, okIn, okIns, exK, leK, leF, leV, matK, objM, renO, roSame, lh, born, AObj.born, AObj.live, injOk, kindOf, rens_ints, okIns_ints, List.range, List.range.loop, mrg, mset]
  simp (maxSteps := 2000000) only [↓vP0, vQ0, vT0, simprocAttr]
  refine callK_det (c_begin kd st (by omega)) [0] ?_ ?_ ?_ rfl (by simp) ?_
  · simp [ren, rens, sg, sig, okIn, okIns, exK, leK, leF, leV, matK, objM, renO, roSame, lh, born, AObj.born, AObj.live, injOk, kindOf, rens_ints, okIns_ints, List.range, List.range.loop, mrg, mset]
  · simp [ren, rens, sg, sig, okIn, okIns, exK, leK, leF, leV, matK, objM, renO, roSame, lh, born, AObj.born, AObj.live, injOk, kindOf, rens_ints, okIns_ints, List.range, List.range.loop, mrg, mset]
  · simp [ren, rens, sg, sig, okIn, okIns, exK, leK, leF, leV, matK, objM, renO, roSame, lh, born, AObj.born, AObj.live, injOk, kindOf, rens_ints, okIns_ints, List.range, List.range.loop, mrg, mset]
  simp (maxSteps := 2000000) only [↓vP0, vQ0, vT0, simprocAttr, vI, ivC_put]
  refine chk_intro (by omega) ?_
  simp (maxSteps := 2000000) only [↓vP0, vQ0, vT0, simprocAttr, vI, ivC_put]
  refine loopK_of tyok hD (α := Nat) (fun i => i ≤ 4) (fun i => 4 - i) (fun i => [.junk, .junk, .junk, .junk, .junk, .junk, .ptr 5 0, .junk, .junk, .junk, .junk, .junk, .junk, .junk, .junk, .junk, .junk, .int .i64 i, .junk, .junk, .junk, .junk, .junk])
    (fun i => [.ro (ints .i64 st) 3, .ro (ints .u8 code) 5, .own [.int .i64 kd, .slice 0 0 st.length] 60, .own (ints .i64 st) 3, .own (ints .u8 code) 5,
      .own (pDecX kd st 0 4294967295 code 3 4 i (wins code i) (max 0 ((i : Int) - (code.length : Int))) false) 154]) 0 (by omega) ?_ ?_
  · have : max 0 (((0 : Nat) : Int) - (code.length : Int)) = 0 := by omega
    simp only [wins, pDecX, this]
    refine ⟨by simp [leF, leV], ⟨[], rfl⟩, by simp, by simp [okIns, okIn], by simp [AObj.born, okIns, okIn, AObj.cells, okIns_ints, ivC_okIns]⟩
  intro i hi
  have hw := wins_bd hb hi
  simp (maxSteps := 2000000) only [↓vP0, vQ0, vT0, simprocAttr]
  (with_reducible first | refine condK_dec (fun h => ?_) (fun h => ?_) | refine condK_beq (fun h => ?_) (fun h => ?_) | refine condK_bne (fun h => ?_) (fun h => ?_) | refine condK_intro (fun h => ?_) (fun h => ?_))
  · have hi' : i < 4 := by omega
    simp (maxSteps := 2000000) only [↓vP0, vQ0, vT0, simprocAttr]
    refine callK_det (c_shift kd st 0 4294967295 code i (wins code i) (max 0 ((i : Int) - (code.length : Int))) false hc (by omega) hb hw (by omega)) [5, 3, 4] ?_ ?_ ?_ rfl (by simp) ?_
    · simp [ren, rens, sg, sig, okIn, okIns, exK, leK, leF, leV, matK, objM, renO, roSame, lh, born, AObj.born, AObj.live, injOk, kindOf, rens_ints, okIns_ints, List.range, List.range.loop, mrg, mset]
    · simp [ren, rens, sg, sig, okIn, okIns, exK, leK, leF, leV, matK, objM, renO, roSame, lh, born, AObj.born, AObj.live, injOk, kindOf, rens_ints, okIns_ints, List.range, List.range.loop, mrg, mset]
    · simp [ren, rens, sg, sig, okIn, okIns, exK, leK, leF, leV, matK, objM, renO, roSame, lh, born, AObj.born, AObj.live, injOk, kindOf, rens_ints, okIns_ints, List.range, List.range.loop, mrg, mset, pDecX, ivC_inj, ivC_rens, ivC_okIns]
    have hm : wins code i % 16777216 = wins code i := by
      have h0 := hb.get 0
      have h1 := hb.get 1
      have h2 := hb.get 2
      have : i = 0 ∨ i = 1 ∨ i = 2 ∨ i = 3 := by omega
      rcases this with rfl | rfl | rfl | rfl <;> simp only [wins] <;> omega
    have hbe : (max 0 ((i : Int) - (code.length : Int)) + if i < code.length then 0 else 1) = max 0 (((i : Nat) : Int) + 1 - (code.length : Int)) := by split <;> omega
    rw [hm, hbe]
    simp only [pDecX]
    simp (maxSteps := 2000000) only [↓vP0, vQ0, vT0, simprocAttr, vI]
    simp (disch := omega) only [wr64, wru64, wru8, tdv, tmd, fdv]
    refine ⟨i + 1, by omega, by omega, ?_⟩
    simp only [wins, Int.natCast_add, Int.cast_ofNat_Int]
    refine ⟨by simp [leF, leV], ⟨[], rfl⟩, by simp, by simp [okIns, okIn], by simp [AObj.born, okIns, okIn, AObj.cells, okIns_ints, ivC_okIns]⟩
  · have : i = 4 := by omega
    subst this
    simp (maxSteps := 2000000) only [↓vP0, vQ0, vT0, simprocAttr]
    rw [wins_4]
    refine exit_of [5, 3, 4] (.tup [.ptr 2 0, .int .i64 0]) [.ro (ints .i64 st) 3, .ro (ints .u8 code) 5, .own (pDecC (decNew kd st code) 3 4) 154, .own (ints .i64 st) 3, .own (ints .u8 code) 5] ⟨rfl, rfl⟩ ?_ ?_ rfl ?_ ?_
    all_goals simp [ren, rens, sg, sig, okIn, okIns, exK, leK, leF, leV, matK, objM, renO, roSame, lh, born, AObj.born, AObj.live, injOk, kindOf, rens_ints, okIns_ints, List.range, List.range.loop, mrg, mset, pDecC, pDecX, decNew, beyI, ivC_inj, ivC_rens, ivC_okIns]
end Go.Proofs.Ytbfefpkhalegmaa

set_option linter.unusedVariables false
set_option linter.unusedSimpArgs false
namespace Go.Proofs.Ytbfefpkhalegmaa
open Go
set_option maxHeartbeats 4000000
set_option maxRecDepth 20000

theorem ivC_put2 (zs : List AV) (kd : Int) (s n : Nat) (lo hi : Int) (rest : List AV) (h : zs.length = 36 + rest.length) : setCells zs 0 (ivC kd s n lo hi rest) = ivC kd s n lo hi rest := by
  have hl := ivC_len kd s n lo hi rest
  rw [setCells_eq _ _ _ (by rw [hl, h]; omega), hl]
  simp [h]
theorem ivC_t42 (kd : Int) (s n : Nat) (lo hi : Int) (a b c d e f : AV) : (ivC kd s n lo hi [a, b, c, d, e, f]).take 42 = ivC kd s n lo hi [a, b, c, d, e, f] := by
  have hl := ivC_len kd s n lo hi [a, b, c, d, e, f]
  exact List.take_of_length_le (by rw [hl]; simp)

theorem c_pGet (d : Dec) (hd : d.Ok) (c : Nat) (hc : c < d.st.length) (hcl : d.code.length ≤ 1099511627776) :
    LCall Try.prog 48 [.ptr 0 0, .int .i64 c] (pDecL d) fun r L => r = .tup [.int .i64 (d.got c), .int .i64 (d.err c)] ∧ L = pDecL (d.after c) := by
  have cn := c_pDNone d
  obtain ⟨kd, st, lo, hi, code, pos, dead⟩ := d
  simp only at hc hcl
  have hs := hd.1.get hc
  have hl := likely_bd hd.1.1 hs
  have hlc := hd.1.2.1
  have hby : ByOk code := hd.2.2.2.1
  have hpos : pos ≤ code.length := hd.2.2.2.2
  have hwb := win_bd hby pos
  simp only at hlc hs hl
  have e1 : decide ((c : Int) < 0) = false := decide_eq_false (by omega)
  have e2 : decide ((st.length : Int) ≤ (c : Int)) = false := decide_eq_false (by omega)
  refine lcall_of_vc tyok Try.func48 rfl (by rfl) Try.results48 Try.ntmps48 ?_; intro C hD
  simp only [pDecL, pDecR, pDecC, pDecX] at hD cn ⊢
  simp (maxSteps := 2000000) only [↓vP0, vQ0, vT0, simprocAttr]
  refine callK_read cn [0, 1, 2] ?_ ?_ ?_ rfl ?_
  · simp [ren, rens, sg, sig, okIn, okIns, exK, leK, leF, leV, matK, objM, renO, roSame, lh, born, AObj.born, AObj.live, injOk, kindOf, rens_ints, okIns_ints, List.range, List.range.loop, mrg, mset]
  · simp [ren, rens, sg, sig, okIn, okIns, exK, leK, leF, leV, matK, objM, renO, roSame, lh, born, AObj.born, AObj.live, injOk, kindOf, rens_ints, okIns_ints, List.range, List.range.loop, mrg, mset]
  · simp [ren, rens, sg, sig, okIn, okIns, exK, leK, leF, leV, matK, objM, renO, roSame, lh, born, AObj.born, AObj.live, injOk, kindOf, rens_ints, okIns_ints, List.range, List.range.loop, mrg, mset, ivC_inj, ivC_rens, ivC_okIns]
  simp (maxSteps := 2000000) only [↓vP0, vQ0, vT0, simprocAttr, e1, e2, vI]
  cases dead with
  | true =>
    simp (maxSteps := 2000000) only [↓vP0, vQ0, vT0, simprocAttr]
    refine exit_keep0 ⟨by simp [Dec.got, Dec.err, Dec.fails], by simp [Dec.after, Dec.fails]⟩ ?_ ?_
    · simp [ren, rens, sg, sig, okIn, okIns, exK, leK, leF, leV, matK, objM, renO, roSame, lh, born, AObj.born, AObj.live, injOk, kindOf, rens_ints, okIns_ints, List.range, List.range.loop, mrg, mset]
    · simp [keepL, keepO, okIns, okIn, okIns_ints, ivC_okIns]
  | false =>
    have hM : SideOk [AObj.ro (ints .u8 code) 5] := by intro o ho; simp at ho; exact ⟨code, ho⟩
    simp (maxSteps := 2000000) only [↓vP0, vQ0, vT0, simprocAttr]
    refine callK_read (c_mid kd st lo hi [.slice 2 0 code.length, .int .i64 ((pos + 4 : Nat) : Int), .int .u64 (win code pos), .int .i64 (beyI ⟨kd, st, lo, hi, code, pos, false⟩), .bool false, .bool true] 154 [.ro (ints .u8 code) 5] hM (by simp [okIns, okIn]) hd.2.1 hd.1 c hc) [0, 1, 2] ?_ ?_ ?_ rfl ?_
    · simp [ren, rens, sg, sig, okIn, okIns, exK, leK, leF, leV, matK, objM, renO, roSame, lh, born, AObj.born, AObj.live, injOk, kindOf, rens_ints, okIns_ints, List.range, List.range.loop, mrg, mset]
    · simp [ren, rens, sg, sig, okIn, okIns, exK, leK, leF, leV, matK, objM, renO, roSame, lh, born, AObj.born, AObj.live, injOk, kindOf, rens_ints, okIns_ints, List.range, List.range.loop, mrg, mset]
    · simp [ren, rens, sg, sig, okIn, okIns, exK, leK, leF, leV, matK, objM, renO, roSame, lh, born, AObj.born, AObj.live, injOk, kindOf, rens_ints, okIns_ints, List.range, List.range.loop, mrg, mset, ivC_inj, ivC_rens, ivC_okIns]
    simp (maxSteps := 2000000) only [↓vP0, vQ0, vT0, simprocAttr, vI]
    have hmb := mid_bd hd.2.1 (p := likely kd (st.getD c 0)) (by omega) (by omega)
    simp only at hmb
    obtain ⟨u1, u2, u3⟩ : 0 ≤ lo ∧ lo ≤ hi ∧ hi ≤ 4294967295 := hd.2.1
    (with_reducible first | refine condK_dec (fun h => ?_) (fun h => ?_) | refine condK_beq (fun h => ?_) (fun h => ?_) | refine condK_bne (fun h => ?_) (fun h => ?_) | refine condK_intro (fun h => ?_) (fun h => ?_))
    · have hbit : Dec.bit ⟨kd, st, lo, hi, code, pos, false⟩ c = 1 := by first | exact if_pos h | exact if_neg h
      have hk := dbit_ok ⟨kd, st, lo, hi, code, pos, false⟩ c
      have hpart := dpart_ok hd hc _ hk
      have hnx := dnext_ok hd hc
      rw [hbit] at hk hpart
      simp (maxSteps := 2000000) only [↓vP0, vQ0, vT0, simprocAttr]
      refine drawK_of tyok rfl (usL [[], [], [12], [], [], [], [], [], [12, 13], [], [], [12, 13]]) (fun i => .below 3) (by kernel_rfl) ?_
      simp (maxSteps := 2000000) only [↓vP0, vQ0, vT0, simprocAttr, vI, ivC_t42, ivC_put2]
      refine chk_intro (by omega) ?_
      simp (maxSteps := 2000000) only [↓vP0, vQ0, vT0, simprocAttr, vI, ivC_t42, ivC_put2, ints_get _ _ _ hc]
      refine callK_det (c_take kd st lo hi [.slice 2 0 code.length, .int .i64 ((pos + 4 : Nat) : Int), .int .u64 (win code pos), .int .i64 (beyI ⟨kd, st, lo, hi, code, pos, false⟩), .bool false, .bool true] 154 [.ro (ints .u8 code) 5] hM (by simp [okIns, okIn]) hd.2.1 hd.1 c hc 1 hk (midI lo hi (likely kd (st.getD c 0))) ⟨by omega, by omega⟩) [0, 1, 2] ?_ ?_ ?_ rfl (by simp) ?_
      · simp [ren, rens, sg, sig, okIn, okIns, exK, leK, leF, leV, matK, objM, renO, roSame, lh, born, AObj.born, AObj.live, injOk, kindOf, rens_ints, okIns_ints, List.range, List.range.loop, mrg, mset]
      · simp [ren, rens, sg, sig, okIn, okIns, exK, leK, leF, leV, matK, objM, renO, roSame, lh, born, AObj.born, AObj.live, injOk, kindOf, rens_ints, okIns_ints, List.range, List.range.loop, mrg, mset]
      · simp [ren, rens, sg, sig, okIn, okIns, exK, leK, leF, leV, matK, objM, renO, roSame, lh, born, AObj.born, AObj.live, injOk, kindOf, rens_ints, okIns_ints, List.range, List.range.loop, mrg, mset, ivC_inj, ivC_rens, ivC_okIns]
      simp (maxSteps := 2000000) only [↓vP0, vQ0, vT0, simprocAttr, vI]
      refine loopK_of tyok hD (α := Nat × Dec) (fun s => flushD s.1 s.2 = Dec.next ⟨kd, st, lo, hi, code, pos, false⟩ c ∧ BdOk s.2.lo s.2.hi ∧ Wide s.1 s.2.lo s.2.hi ∧ s.2.code = code ∧ s.2.dead = false ∧ s.2.pos + s.1 ≤ pos + 4) (fun s => s.1)
        (fun s => [.ptr 0 0, .int .i64 c, .junk, .junk, .junk, .junk, .int .i64 1, .junk, .ptr 3 0, .int .i64 (st.getD c 0), .junk, .junk, .junk, .junk, .junk, .junk, .junk, .junk, .junk, .junk, .junk, .junk, .junk, .junk, .junk, .junk, .junk, .junk, .junk, .junk, .junk, .junk, .junk, .junk, .junk, .junk, .junk, .junk, .junk, .junk, .junk, .junk, .junk, .junk, .junk, .junk, .junk, .junk, .junk, .junk, .junk, .junk, .junk, .junk, .junk, .junk, .junk, .junk, .junk, .junk, .junk, .junk, .junk, .junk, .junk, .junk, .junk, .junk, .junk, .junk, .junk, .junk, .junk, .junk, .junk, .junk, .junk, .junk, .junk, .junk, .junk, .junk, .junk, .junk, .junk, .junk, .junk, .junk, .junk, .junk, .junk, .junk, .junk])
        (fun s => [.own (pDecX s.2.kd s.2.st s.2.lo s.2.hi code 1 2 (s.2.pos + 4) (win code s.2.pos) (beyI s.2) false) 154, .own (ints .i64 s.2.st) 3, .ro (ints .u8 code) 5,
          .own (pDecX kd st lo hi code 1 2 (pos + 4) (win code pos) (beyI ⟨kd, st, lo, hi, code, pos, false⟩) false) 154])
        (4, Dec.part ⟨kd, st, lo, hi, code, pos, false⟩ c 1) ⟨by unfold Dec.next; rw [hbit], hpart.1, hpart.2, rfl, rfl, by simp [Dec.part]⟩ ?_ ?_
      · simp only [Dec.part, Dec.mid, pDecX, beyI]
        refine ⟨by simp [leF, leV], ⟨[], by simp⟩, by simp, by simp [okIns, okIn], by simp [AObj.born, okIns, okIn, AObj.cells, okIns_ints, ivC_okIns]⟩
      rintro ⟨n, kd', st', lo', hi', code', pos', dead'⟩ ⟨hf, hbd, hw, hcd, hdd, hps⟩
      simp only at hf hbd hw hcd hdd hps
      subst hcd; subst hdd
      have hwb' := win_bd hby pos'
      have ⟨w1, w2, w3⟩ := hbd
      simp only [pDecX]
      simp (maxSteps := 2000000) only [↓vP0, vQ0, vT0, simprocAttr]
      refine callK_read (c_same kd' st' lo' hi' [.slice 2 0 code'.length, .int .i64 ((pos' + 4 : Nat) : Int), .int .u64 (win code' pos'), .int .i64 (beyI ⟨kd', st', lo', hi', code', pos', false⟩), .bool false, .bool true] 154 [.ro (ints .u8 code') 5] hM (by simp [okIns, okIn]) hbd) [0, 1, 2] ?_ ?_ ?_ rfl ?_
      · simp [ren, rens, sg, sig, okIn, okIns, exK, leK, leF, leV, matK, objM, renO, roSame, lh, born, AObj.born, AObj.live, injOk, kindOf, rens_ints, okIns_ints, List.range, List.range.loop, mrg, mset]
      · simp [ren, rens, sg, sig, okIn, okIns, exK, leK, leF, leV, matK, objM, renO, roSame, lh, born, AObj.born, AObj.live, injOk, kindOf, rens_ints, okIns_ints, List.range, List.range.loop, mrg, mset]
      · simp [ren, rens, sg, sig, okIn, okIns, exK, leK, leF, leV, matK, objM, renO, roSame, lh, born, AObj.born, AObj.live, injOk, kindOf, rens_ints, okIns_ints, List.range, List.range.loop, mrg, mset, ivC_inj, ivC_rens, ivC_okIns]
      simp (maxSteps := 2000000) only [↓vP0, vQ0, vT0, simprocAttr]
      (with_reducible first | refine condK_dec (fun h => ?_) (fun h => ?_) | refine condK_beq (fun h => ?_) (fun h => ?_) | refine condK_bne (fun h => ?_) (fun h => ?_) | refine condK_intro (fun h => ?_) (fun h => ?_))
      · cases n with
        | zero => exact absurd h (hw.zero hbd)
        | succ n =>
          simp (maxSteps := 2000000) only [↓vP0, vQ0, vT0, simprocAttr]
          refine callK_det (c_lose kd' st' lo' hi' [.slice 2 0 code'.length, .int .i64 ((pos' + 4 : Nat) : Int), .int .u64 (win code' pos'), .int .i64 (beyI ⟨kd', st', lo', hi', code', pos', false⟩), .bool false, .bool true] 154 [.ro (ints .u8 code') 5] hM (by simp [okIns, okIn]) hbd) [0, 1, 2] ?_ ?_ ?_ rfl (by simp) ?_
          · simp [ren, rens, sg, sig, okIn, okIns, exK, leK, leF, leV, matK, objM, renO, roSame, lh, born, AObj.born, AObj.live, injOk, kindOf, rens_ints, okIns_ints, List.range, List.range.loop, mrg, mset]
          · simp [ren, rens, sg, sig, okIn, okIns, exK, leK, leF, leV, matK, objM, renO, roSame, lh, born, AObj.born, AObj.live, injOk, kindOf, rens_ints, okIns_ints, List.range, List.range.loop, mrg, mset]
          · simp [ren, rens, sg, sig, okIn, okIns, exK, leK, leF, leV, matK, objM, renO, roSame, lh, born, AObj.born, AObj.live, injOk, kindOf, rens_ints, okIns_ints, List.range, List.range.loop, mrg, mset, ivC_inj, ivC_rens, ivC_okIns]
          simp (maxSteps := 2000000) only [↓vP0, vQ0, vT0, simprocAttr, vI]
          refine callK_det (c_shift kd' st' (lo' % 16777216 * 256) (hi' % 16777216 * 256 + 255) code' (pos' + 4) (win code' pos') (beyI ⟨kd', st', lo', hi', code', pos', false⟩) false hcl (by omega) hby hwb' (by unfold beyI; simp only; omega)) [0, 1, 2] ?_ ?_ ?_ rfl (by simp) ?_
          · simp [ren, rens, sg, sig, okIn, okIns, exK, leK, leF, leV, matK, objM, renO, roSame, lh, born, AObj.born, AObj.live, injOk, kindOf, rens_ints, okIns_ints, List.range, List.range.loop, mrg, mset]
          · simp [ren, rens, sg, sig, okIn, okIns, exK, leK, leF, leV, matK, objM, renO, roSame, lh, born, AObj.born, AObj.live, injOk, kindOf, rens_ints, okIns_ints, List.range, List.range.loop, mrg, mset]
          · simp [ren, rens, sg, sig, okIn, okIns, exK, leK, leF, leV, matK, objM, renO, roSame, lh, born, AObj.born, AObj.live, injOk, kindOf, rens_ints, okIns_ints, List.range, List.range.loop, mrg, mset, pDecX, ivC_inj, ivC_rens, ivC_okIns]
          have hws := win_step hby pos'
          have hbe : (beyI ⟨kd', st', lo', hi', code', pos', false⟩ + if pos' + 4 < code'.length then 0 else 1) = beyI (Dec.shift ⟨kd', st', lo', hi', code', pos', false⟩) := by
            simp only [beyI, Dec.shift]; split <;> omega
          rw [hws, hbe]
          simp only [pDecX]
          simp (maxSteps := 2000000) only [↓vP0, vQ0, vT0, simprocAttr, vI]
          have ⟨s1, s2⟩ := hw.shift (e := ⟨kd', st', lo', hi', []⟩) hbd h
          refine ⟨(n, Dec.shift ⟨kd', st', lo', hi', code', pos', false⟩), ⟨by rw [← hf]; simp [flushD, h], s1, s2, rfl, rfl, by simp [Dec.shift]; omega⟩, by simp, ?_⟩
          simp only [Dec.shift, Nat.add_right_comm pos' 4 1]
          refine ⟨by simp [leF, leV], ⟨[], by simp⟩, by simp, by simp [okIns, okIn], by simp [AObj.born, okIns, okIn, AObj.cells, okIns_ints, ivC_okIns]⟩
      · have hfl : flushD n ⟨kd', st', lo', hi', code', pos', false⟩ = ⟨kd', st', lo', hi', code', pos', false⟩ := by cases n <;> simp [flushD, h]
        rw [hfl] at hf
        rw [← hf, hbit] at hnx
        simp only at hnx
        obtain ⟨-, -, hkd, hst, -, hdd, -, -⟩ := hnx
        replace hkd := hkd.symm
        subst hkd; subst hst
        simp (maxSteps := 2000000) only [↓vP0, vQ0, vT0, simprocAttr, vI]
        (with_reducible first | refine condK_dec (fun h => ?_) (fun h => ?_) | refine condK_beq (fun h => ?_) (fun h => ?_) | refine condK_bne (fun h => ?_) (fun h => ?_) | refine condK_intro (fun h => ?_) (fun h => ?_))
        · have hfa : Dec.fails ⟨kd, st, lo, hi, code', pos, false⟩ c = true := by
            unfold Dec.fails; rw [← hf]; simp only [beyI] at h; simp; omega
          simp (maxSteps := 2000000) only [↓vP0, vQ0, vT0, simprocAttr, vI, ivC_t42, ivC_put2]
          refine chk_intro (by omega) ?_
          simp (maxSteps := 2000000) only [↓vP0, vQ0, vT0, simprocAttr, vI]
          refine chk_intro (by first | omega | (simp; omega)) ?_
          simp (maxSteps := 2000000) only [↓vP0, vQ0, vT0, simprocAttr, vI]
          have hss : (st.set c (after kd (st.getD c 0) 1)).set c (st.getD c 0) = st := by
            rw [List.set_set]
            have : st.getD c 0 = st[c] := by simp [List.getD_eq_getElem?_getD, List.getElem?_eq_getElem hc]
            rw [this]; exact List.set_getElem_self hc
          rw [hss]
          refine exit_of [] (.tup [.int .i64 0, .int .i64 6]) (pDecL (Dec.after ⟨kd, st, lo, hi, code', pos, false⟩ c)) ⟨by simp [Dec.got, Dec.err, hfa], rfl⟩ ?_ ?_ ?_ ?_ ?_
          all_goals ((try simp only [Dec.after, hfa, if_true]); simp [ren, rens, sg, sig, okIn, okIns, exK, leK, leF, leV, matK, objM, renO, roSame, lh, born, AObj.born, AObj.live, injOk, kindOf, rens_ints, okIns_ints, List.range, List.range.loop, mrg, mset, pDecL, pDecC, pDecX, beyI, ivC_inj, ivC_rens, ivC_okIns])
        · have hfa : Dec.fails ⟨kd, st, lo, hi, code', pos, false⟩ c = false := by
            unfold Dec.fails; rw [← hf]; simp only [beyI] at h; simp; omega
          simp (maxSteps := 2000000) only [↓vP0, vQ0, vT0, simprocAttr]
          refine exit_of [] (.tup [.int .i64 1, .int .i64 0]) (pDecL (Dec.after ⟨kd, st, lo, hi, code', pos, false⟩ c)) ⟨by simp [Dec.got, Dec.err, hfa, hbit], rfl⟩ ?_ ?_ ?_ ?_ ?_
          all_goals ((try simp only [Dec.after, hfa, if_false, Bool.false_eq_true]); (try rw [← hf]); simp [ren, rens, sg, sig, okIn, okIns, exK, leK, leF, leV, matK, objM, renO, roSame, lh, born, AObj.born, AObj.live, injOk, kindOf, rens_ints, okIns_ints, List.range, List.range.loop, mrg, mset, pDecL, pDecC, pDecX, beyI, ivC_inj, ivC_rens, ivC_okIns])
    · have hbit : Dec.bit ⟨kd, st, lo, hi, code, pos, false⟩ c = 0 := by first | exact if_pos h | exact if_neg h
      have hk := dbit_ok ⟨kd, st, lo, hi, code, pos, false⟩ c
      have hpart := dpart_ok hd hc _ hk
      have hnx := dnext_ok hd hc
      rw [hbit] at hk hpart
      simp (maxSteps := 2000000) only [↓vP0, vQ0, vT0, simprocAttr]
      refine drawK_of tyok rfl (usL [[], [], [12], [], [], [], [], [], [12, 13], [], [], [12, 13]]) (fun i => .below 3) (by kernel_rfl) ?_
      simp (maxSteps := 2000000) only [↓vP0, vQ0, vT0, simprocAttr, vI, ivC_t42, ivC_put2]
      refine chk_intro (by omega) ?_
      simp (maxSteps := 2000000) only [↓vP0, vQ0, vT0, simprocAttr, vI, ivC_t42, ivC_put2, ints_get _ _ _ hc]
      refine callK_det (c_take kd st lo hi [.slice 2 0 code.length, .int .i64 ((pos + 4 : Nat) : Int), .int .u64 (win code pos), .int .i64 (beyI ⟨kd, st, lo, hi, code, pos, false⟩), .bool false, .bool true] 154 [.ro (ints .u8 code) 5] hM (by simp [okIns, okIn]) hd.2.1 hd.1 c hc 0 hk (midI lo hi (likely kd (st.getD c 0))) ⟨by omega, by omega⟩) [0, 1, 2] ?_ ?_ ?_ rfl (by simp) ?_
      · simp [ren, rens, sg, sig, okIn, okIns, exK, leK, leF, leV, matK, objM, renO, roSame, lh, born, AObj.born, AObj.live, injOk, kindOf, rens_ints, okIns_ints, List.range, List.range.loop, mrg, mset]
      · simp [ren, rens, sg, sig, okIn, okIns, exK, leK, leF, leV, matK, objM, renO, roSame, lh, born, AObj.born, AObj.live, injOk, kindOf, rens_ints, okIns_ints, List.range, List.range.loop, mrg, mset]
      · simp [ren, rens, sg, sig, okIn, okIns, exK, leK, leF, leV, matK, objM, renO, roSame, lh, born, AObj.born, AObj.live, injOk, kindOf, rens_ints, okIns_ints, List.range, List.range.loop, mrg, mset, ivC_inj, ivC_rens, ivC_okIns]
      simp (maxSteps := 2000000) only [↓vP0, vQ0, vT0, simprocAttr, vI]
      refine loopK_of tyok hD (α := Nat × Dec) (fun s => flushD s.1 s.2 = Dec.next ⟨kd, st, lo, hi, code, pos, false⟩ c ∧ BdOk s.2.lo s.2.hi ∧ Wide s.1 s.2.lo s.2.hi ∧ s.2.code = code ∧ s.2.dead = false ∧ s.2.pos + s.1 ≤ pos + 4) (fun s => s.1)
        (fun s => [.ptr 0 0, .int .i64 c, .junk, .junk, .junk, .junk, .int .i64 0, .junk, .ptr 3 0, .int .i64 (st.getD c 0), .junk, .junk, .junk, .junk, .junk, .junk, .junk, .junk, .junk, .junk, .junk, .junk, .junk, .junk, .junk, .junk, .junk, .junk, .junk, .junk, .junk, .junk, .junk, .junk, .junk, .junk, .junk, .junk, .junk, .junk, .junk, .junk, .junk, .junk, .junk, .junk, .junk, .junk, .junk, .junk, .junk, .junk, .junk, .junk, .junk, .junk, .junk, .junk, .junk, .junk, .junk, .junk, .junk, .junk, .junk, .junk, .junk, .junk, .junk, .junk, .junk, .junk, .junk, .junk, .junk, .junk, .junk, .junk, .junk, .junk, .junk, .junk, .junk, .junk, .junk, .junk, .junk, .junk, .junk, .junk, .junk, .junk, .junk])
        (fun s => [.own (pDecX s.2.kd s.2.st s.2.lo s.2.hi code 1 2 (s.2.pos + 4) (win code s.2.pos) (beyI s.2) false) 154, .own (ints .i64 s.2.st) 3, .ro (ints .u8 code) 5,
          .own (pDecX kd st lo hi code 1 2 (pos + 4) (win code pos) (beyI ⟨kd, st, lo, hi, code, pos, false⟩) false) 154])
        (4, Dec.part ⟨kd, st, lo, hi, code, pos, false⟩ c 0) ⟨by unfold Dec.next; rw [hbit], hpart.1, hpart.2, rfl, rfl, by simp [Dec.part]⟩ ?_ ?_
      · simp only [Dec.part, Dec.mid, pDecX, beyI]
        refine ⟨by simp [leF, leV], ⟨[], by simp⟩, by simp, by simp [okIns, okIn], by simp [AObj.born, okIns, okIn, AObj.cells, okIns_ints, ivC_okIns]⟩
      rintro ⟨n, kd', st', lo', hi', code', pos', dead'⟩ ⟨hf, hbd, hw, hcd, hdd, hps⟩
      simp only at hf hbd hw hcd hdd hps
      subst hcd; subst hdd
      have hwb' := win_bd hby pos'
      have ⟨w1, w2, w3⟩ := hbd
      simp only [pDecX]
      simp (maxSteps := 2000000) only [↓vP0, vQ0, vT0, simprocAttr]
      refine callK_read (c_same kd' st' lo' hi' [.slice 2 0 code'.length, .int .i64 ((pos' + 4 : Nat) : Int), .int .u64 (win code' pos'), .int .i64 (beyI ⟨kd', st', lo', hi', code', pos', false⟩), .bool false, .bool true] 154 [.ro (ints .u8 code') 5] hM (by simp [okIns, okIn]) hbd) [0, 1, 2] ?_ ?_ ?_ rfl ?_
      · simp [ren, rens, sg, sig, okIn, okIns, exK, leK, leF, leV, matK, objM, renO, roSame, lh, born, AObj.born, AObj.live, injOk, kindOf, rens_ints, okIns_ints, List.range, List.range.loop, mrg, mset]
      · simp [ren, rens, sg, sig, okIn, okIns, exK, leK, leF, leV, matK, objM, renO, roSame, lh, born, AObj.born, AObj.live, injOk, kindOf, rens_ints, okIns_ints, List.range, List.range.loop, mrg, mset]
      · simp [ren, rens, sg, sig, okIn, okIns, exK, leK, leF, leV, matK, objM, renO, roSame, lh, born, AObj.born, AObj.live, injOk, kindOf, rens_ints, okIns_ints, List.range, List.range.loop, mrg, mset, ivC_inj, ivC_rens, ivC_okIns]
      simp (maxSteps := 2000000) only [↓vP0, vQ0, vT0, simprocAttr]
      (with_reducible first | refine condK_dec (fun h => ?_) (fun h => ?_) | refine condK_beq (fun h => ?_) (fun h => ?_) | refine condK_bne (fun h => ?_) (fun h => ?_) | refine condK_intro (fun h => ?_) (fun h => ?_))
      · cases n with
        | zero => exact absurd h (hw.zero hbd)
        | succ n =>
          simp (maxSteps := 2000000) only [↓vP0, vQ0, vT0, simprocAttr]
          refine callK_det (c_lose kd' st' lo' hi' [.slice 2 0 code'.length, .int .i64 ((pos' + 4 : Nat) : Int), .int .u64 (win code' pos'), .int .i64 (beyI ⟨kd', st', lo', hi', code', pos', false⟩), .bool false, .bool true] 154 [.ro (ints .u8 code') 5] hM (by simp [okIns, okIn]) hbd) [0, 1, 2] ?_ ?_ ?_ rfl (by simp) ?_
          · simp [ren, rens, sg, sig, okIn, okIns, exK, leK, leF, leV, matK, objM, renO, roSame, lh, born, AObj.born, AObj.live, injOk, kindOf, rens_ints, okIns_ints, List.range, List.range.loop, mrg, mset]
          · simp [ren, rens, sg, sig, okIn, okIns, exK, leK, leF, leV, matK, objM, renO, roSame, lh, born, AObj.born, AObj.live, injOk, kindOf, rens_ints, okIns_ints, List.range, List.range.loop, mrg, mset]
          · simp [ren, rens, sg, sig, okIn, okIns, exK, leK, leF, leV, matK, objM, renO, roSame, lh, born, AObj.born, AObj.live, injOk, kindOf, rens_ints, okIns_ints, List.range, List.range.loop, mrg, mset, ivC_inj, ivC_rens, ivC_okIns]
          simp (maxSteps := 2000000) only [↓vP0, vQ0, vT0, simprocAttr, vI]
          refine callK_det (c_shift kd' st' (lo' % 16777216 * 256) (hi' % 16777216 * 256 + 255) code' (pos' + 4) (win code' pos') (beyI ⟨kd', st', lo', hi', code', pos', false⟩) false hcl (by omega) hby hwb' (by unfold beyI; simp only; omega)) [0, 1, 2] ?_ ?_ ?_ rfl (by simp) ?_
          · simp [ren, rens, sg, sig, okIn, okIns, exK, leK, leF, leV, matK, objM, renO, roSame, lh, born, AObj.born, AObj.live, injOk, kindOf, rens_ints, okIns_ints, List.range, List.range.loop, mrg, mset]
          · simp [ren, rens, sg, sig, okIn, okIns, exK, leK, leF, leV, matK, objM, renO, roSame, lh, born, AObj.born, AObj.live, injOk, kindOf, rens_ints, okIns_ints, List.range, List.range.loop, mrg, mset]
          · simp [ren, rens, sg, sig, okIn, okIns, exK, leK, leF, leV, matK, objM, renO, roSame, lh, born, AObj.born, AObj.live, injOk, kindOf, rens_ints, okIns_ints, List.range, List.range.loop, mrg, mset, pDecX, ivC_inj, ivC_rens, ivC_okIns]
          have hws := win_step hby pos'
          have hbe : (beyI ⟨kd', st', lo', hi', code', pos', false⟩ + if pos' + 4 < code'.length then 0 else 1) = beyI (Dec.shift ⟨kd', st', lo', hi', code', pos', false⟩) := by
            simp only [beyI, Dec.shift]; split <;> omega
          rw [hws, hbe]
          simp only [pDecX]
          simp (maxSteps := 2000000) only [↓vP0, vQ0, vT0, simprocAttr, vI]
          have ⟨s1, s2⟩ := hw.shift (e := ⟨kd', st', lo', hi', []⟩) hbd h
          refine ⟨(n, Dec.shift ⟨kd', st', lo', hi', code', pos', false⟩), ⟨by rw [← hf]; simp [flushD, h], s1, s2, rfl, rfl, by simp [Dec.shift]; omega⟩, by simp, ?_⟩
          simp only [Dec.shift, Nat.add_right_comm pos' 4 1]
          refine ⟨by simp [leF, leV], ⟨[], by simp⟩, by simp, by simp [okIns, okIn], by simp [AObj.born, okIns, okIn, AObj.cells, okIns_ints, ivC_okIns]⟩
      · have hfl : flushD n ⟨kd', st', lo', hi', code', pos', false⟩ = ⟨kd', st', lo', hi', code', pos', false⟩ := by cases n <;> simp [flushD, h]
        rw [hfl] at hf
        rw [← hf, hbit] at hnx
        simp only at hnx
        obtain ⟨-, -, hkd, hst, -, hdd, -, -⟩ := hnx
        replace hkd := hkd.symm
        subst hkd; subst hst
        simp (maxSteps := 2000000) only [↓vP0, vQ0, vT0, simprocAttr, vI]
        (with_reducible first | refine condK_dec (fun h => ?_) (fun h => ?_) | refine condK_beq (fun h => ?_) (fun h => ?_) | refine condK_bne (fun h => ?_) (fun h => ?_) | refine condK_intro (fun h => ?_) (fun h => ?_))
        · have hfa : Dec.fails ⟨kd, st, lo, hi, code', pos, false⟩ c = true := by
            unfold Dec.fails; rw [← hf]; simp only [beyI] at h; simp; omega
          simp (maxSteps := 2000000) only [↓vP0, vQ0, vT0, simprocAttr, vI, ivC_t42, ivC_put2]
          refine chk_intro (by omega) ?_
          simp (maxSteps := 2000000) only [↓vP0, vQ0, vT0, simprocAttr, vI]
          refine chk_intro (by first | omega | (simp; omega)) ?_
          simp (maxSteps := 2000000) only [↓vP0, vQ0, vT0, simprocAttr, vI]
          have hss : (st.set c (after kd (st.getD c 0) 0)).set c (st.getD c 0) = st := by
            rw [List.set_set]
            have : st.getD c 0 = st[c] := by simp [List.getD_eq_getElem?_getD, List.getElem?_eq_getElem hc]
            rw [this]; exact List.set_getElem_self hc
          rw [hss]
          refine exit_of [] (.tup [.int .i64 0, .int .i64 6]) (pDecL (Dec.after ⟨kd, st, lo, hi, code', pos, false⟩ c)) ⟨by simp [Dec.got, Dec.err, hfa], rfl⟩ ?_ ?_ ?_ ?_ ?_
          all_goals ((try simp only [Dec.after, hfa, if_true]); simp [ren, rens, sg, sig, okIn, okIns, exK, leK, leF, leV, matK, objM, renO, roSame, lh, born, AObj.born, AObj.live, injOk, kindOf, rens_ints, okIns_ints, List.range, List.range.loop, mrg, mset, pDecL, pDecC, pDecX, beyI, ivC_inj, ivC_rens, ivC_okIns])
        · have hfa : Dec.fails ⟨kd, st, lo, hi, code', pos, false⟩ c = false := by
            unfold Dec.fails; rw [← hf]; simp only [beyI] at h; simp; omega
          simp (maxSteps := 2000000) only [↓vP0, vQ0, vT0, simprocAttr]
          refine exit_of [] (.tup [.int .i64 0, .int .i64 0]) (pDecL (Dec.after ⟨kd, st, lo, hi, code', pos, false⟩ c)) ⟨by simp [Dec.got, Dec.err, hfa, hbit], rfl⟩ ?_ ?_ ?_ ?_ ?_
          all_goals ((try simp only [Dec.after, hfa, if_false, Bool.false_eq_true]); (try rw [← hf]); simp [ren, rens, sg, sig, okIn, okIns, exK, leK, leF, leV, matK, objM, renO, roSame, lh, born, AObj.born, AObj.live, injOk, kindOf, rens_ints, okIns_ints, List.range, List.range.loop, mrg, mset, pDecL, pDecC, pDecX, beyI, ivC_inj, ivC_rens, ivC_okIns])
end Go.Proofs.Ytbfefpkhalegmaa
