/- The law RefinePuts: what it computes, and that it is true (printed by tools/gen27.py). -/
import Derived.Test.YtbfefpkhalegmaaF7
import Derived.KernelRfl
import Derived.Test.YtbfefpkhalegmaaF6
import Derived.Deep.Slices

set_option linter.unusedVariables false
set_option linter.unusedSimpArgs false
namespace Go.Proofs.Ytbfefpkhalegmaa
open Go
set_option maxHeartbeats 4000000
set_option maxRecDepth 20000

/-- A bitmap: width, height, pixels. -/
abbrev Bm := Int × Int × List Int
abbrev bm0 : Bm := (0, 0, [])
/-- Bitmaps one behind the other, their pixels in the objects from k on. -/
def bmsF (k : Nat) : List Bm → List AV
  | [] => []
  | b :: l => .int .i64 b.1 :: .int .i64 b.2.1 :: .slice k 0 b.2.2.length :: bmsF (k + 1) l
theorem bmsF_len : ∀ (k : Nat) (l : List Bm), (bmsF k l).length = l.length * 3
  | k, [] => rfl
  | k, b :: l => by simp [bmsF, bmsF_len (k + 1) l]; omega
theorem bmsF_get : ∀ (k : Nat) (l : List Bm) (i : Nat), i < l.length → ((bmsF k l).drop (i * 3)).take 3 = [.int .i64 (l.getD i bm0).1, .int .i64 (l.getD i bm0).2.1, .slice (k + i) 0 (l.getD i bm0).2.2.length]
  | k, [], i, h => by simp at h
  | k, b :: l, 0, h => by simp [bmsF]
  | k, b :: l, i + 1, h => by
    have := bmsF_get (k + 1) l i (by simpa using h)
    rw [show (i + 1) * 3 = i * 3 + 3 by omega]
    simp only [bmsF, List.drop_succ_cons, List.getD_cons_succ]
    rw [this, show k + 1 + i = k + (i + 1) by omega]
theorem bmsF_okIns (B : Nat → Prop) : ∀ (k : Nat) (l : List Bm), (∀ i, i < l.length → B (k + i)) → okIns B (bmsF k l)
  | k, [], h => trivial
  | k, b :: l, h => ⟨trivial, trivial, h 0 (by simp), bmsF_okIns B (k + 1) l fun i hi => by have := h (i + 1) (by simpa using hi); rwa [show k + (i + 1) = k + 1 + i by omega] at this⟩
theorem bmsF_rens (σ : Nat → Nat) : ∀ (k : Nat) (l : List Bm), (∀ i, i < l.length → σ (k + i) = k + i) → rens σ (bmsF k l) = bmsF k l
  | k, [], h => rfl
  | k, b :: l, h => by
    have h0 := h 0 (by simp)
    simp only [Nat.add_zero] at h0
    simp only [bmsF, rens, ren, h0]
    rw [bmsF_rens σ (k + 1) l fun i hi => by have := h (i + 1) (by simpa using hi); rwa [show k + (i + 1) = k + 1 + i by omega] at this]
def boolsF (l : List Bool) : List AV := l.map .bool
theorem boolsF_len (l : List Bool) : (boolsF l).length = l.length := by simp [boolsF]
theorem boolsF_get (l : List Bool) (i : Nat) (h : i < l.length) : (boolsF l)[i]? = some (.bool (l.getD i false)) := by
  simp [boolsF, List.getD_eq_getElem?_getD, List.getElem?_eq_getElem h]
theorem boolsF_plain : ∀ l, plainVs (boolsF l) = true
  | [] => rfl
  | b :: l => by simpa [boolsF, plainVs, plainV] using boolsF_plain l
theorem boolsF_rens (σ : Nat → Nat) (l : List Bool) : rens σ (boolsF l) = boolsF l := rens_plain _ _ (boolsF_plain l)
theorem boolsF_okIns (B : Nat → Prop) (l : List Bool) : okIns B (boolsF l) = True := by simp [okIns_plain B _ (boolsF_plain l)]

/-- What one bitmap behind one bit puts. -/
def bit01 (b : Bool) : Int := if b then 1 else 0
section
variable (t dx dy : Int) (ty : Bool) (base : Nat) (w' v' : Int) (q : List Int) (l : List Bm) (bits : List Bool)
def evQ (i : Nat) : List (Nat × Int) := (0, bit01 (bits.getD i false)) :: mv base (refEv t dx dy ty (l.getD i bm0).1 (l.getD i bm0).2.1 (l.getD i bm0).2.2 w' v' q)
def evU (i : Nat) : List (Nat × Int) := (List.range i).flatMap (evQ t dx dy ty base w' v' q l bits)
end
abbrev bmT (b : Bm) : Bool := bmB b.1 b.2.1 b.2.2
section
variable {t dx dy : Int} {ty : Bool} {base : Nat} {w' v' : Int} {q : List Int} {l : List Bm} {bits : List Bool}
theorem evQ_ok (ht : t = 0 ∨ t = 1) (hq : PixOk q) {i : Nat} (hp : PixOk (l.getD i bm0).2.2) (hb : BmOk (l.getD i bm0).1 (l.getD i bm0).2.1 (l.getD i bm0).2.2) :
    EvsOk (base + (sizeN t).toNat) (evQ t dx dy ty base w' v' q l bits i) ∧ (evQ t dx dy ty base w' v' q l bits i).length ≤ 40201 := by
  have hs0 : sizeN t = 513 ∨ sizeN t = 129 := by unfold sizeN; split <;> simp
  refine ⟨fun x hx => ?_, ?_⟩
  · rcases List.mem_cons.1 hx with rfl | hx
    · exact ⟨by simp only; omega, by simp only [bit01, KdOk]; split <;> simp⟩
    · exact mv_ok (n := (sizeN t).toNat) (m := base + (sizeN t).toNat) (by omega) (refEv_ok ht hp hq) x hx
  · have := refEv_len (t := t) (dx := dx) (dy := dy) (ty := ty) (p := (l.getD i bm0).2.2) (w' := w') (v' := v') (q := q) hb.1.2.1 hb.1.2.2.2.1
    unfold evQ
    rw [List.length_cons, mv_len]; omega
theorem evU_ok (ht : t = 0 ∨ t = 1) (hq : PixOk q) : ∀ (n : Nat), (∀ i, i < n → PixOk (l.getD i bm0).2.2 ∧ BmOk (l.getD i bm0).1 (l.getD i bm0).2.1 (l.getD i bm0).2.2) →
    EvsOk (base + (sizeN t).toNat) (evU t dx dy ty base w' v' q l bits n) ∧ (evU t dx dy ty base w' v' q l bits n).length ≤ 40201 * n
  | 0, h => ⟨fun x hx => by simp [evU] at hx, by simp [evU]⟩
  | n + 1, h => by
    obtain ⟨a, b⟩ := evU_ok ht hq n fun i hi => h i (by omega)
    obtain ⟨c, d⟩ := evQ_ok (dx := dx) (dy := dy) (ty := ty) (base := base) (w' := w') (v' := v') (bits := bits) ht hq (h n (by omega)).1 (h n (by omega)).2
    have e : evU t dx dy ty base w' v' q l bits (n + 1) = evU t dx dy ty base w' v' q l bits n ++ evQ t dx dy ty base w' v' q l bits n := range_flat_succ _ _
    rw [e]
    refine ⟨fun x hx => ?_, ?_⟩
    · rcases List.mem_append.1 hx with hx | hx
      · exact a x hx
      · exact c x hx
    · rw [List.length_append]; omega
end
theorem get_back {t dx dy : Int} {ty : Bool} {kd w v w' v' : Int} {p q : List Int} {base : Nat} {d d' : Dec} (hbp : ByOk p) (ho : OptOk t dx dy kd) (hb1 : bmB w v p = true) (hr1 : bmB w' v' q = true) (hfit : (base : Int) ≤ d.st.length - sizeN t)
    (hf : Feeds d (mv base (refEv t dx dy ty w v p w' v' q)) d') :
    gE t dx dy ty kd base w v w' v' q d = 0 ∧ gP t dx dy ty kd base w v w' v' q d = p ∧ gW t dx dy ty kd base w v w' v' q d = w ∧ gV t dx dy ty kd base w v w' v' q d = v ∧ gD t dx dy ty kd base w v w' v' q d = d' := by
  obtain ⟨hb, hp⟩ := bmB_ok hbp hb1
  have hsz : sizeB w v = true := (sizeB_iff w v).2 hb.1
  have hask : gAsk t dx dy kd base w v w' v' q d = 0 := by
    rw [gAsk, askErr, if_neg (not_not_intro ho), hsz, hr1, Bool.true_and, if_neg (by simp), if_neg (by omega)]
  have hrun : gRun t dx dy ty base w v w' v' q d = ⟨d', p, 0⟩ := by
    unfold gRun
    refine regGet_feeds hb ?_
    rw [Int.toNat_natCast]; exact hf
  simp [gE, gP, gW, gV, gD, hask, hrun]
abbrev lawL (l : List Bm) (q : List Int) (bits : List Bool) : List AObj := [.ro (bmsF 3 l) 48, .ro (ints .u8 q) 5, .ro (boolsF bits) 4,
  .ro (ints .u8 (l.getD 0 bm0).2.2) 5, .ro (ints .u8 (l.getD 1 bm0).2.2) 5, .ro (ints .u8 (l.getD 2 bm0).2.2) 5, .ro (ints .u8 (l.getD 3 bm0).2.2) 5, .ro (ints .u8 (l.getD 4 bm0).2.2) 5, .ro (ints .u8 (l.getD 5 bm0).2.2) 5]
theorem lawL_ok {n : Nat} (hn : n ≤ 6) {l : List Bm} (hl : l.length ≤ n) {m : Nat} (hm : 9 ≤ m) : okIns (fun i => i < m) (bmsF 3 l) := bmsF_okIns _ 3 l fun i hi => by omega

theorem c_RefinePutsBig (t dx dy : Int) (hdx : I64 dx) (hdy : I64 dy) (ty : Bool) (kd : Int) (n : Nat) (hn : 6 < n) (hn2 : n ≤ big) (w' v' : Int) (q : List Int) (hql : q.length ≤ big) (base : Int) (bits : List Bool) (hbl : bits.length ≤ big) :
    LCall Try.prog 9 [optV t dx dy ty kd, .slice 0 0 n, bmV w' v' 1 q.length, .int .i64 base, .slice 2 0 bits.length] [.ro [] 48, .ro (ints .u8 q) 5, .ro (boolsF bits) 4] fun r L =>
      r = .bool true ∧ L = [.ro [] 48, .ro (ints .u8 q) 5, .ro (boolsF bits) 4] := by
  have hkeep : keepL 3 [AObj.ro [] 48, .ro (ints .u8 q) 5, .ro (boolsF bits) 4] [AObj.ro [] 48, .ro (ints .u8 q) 5, .ro (boolsF bits) 4] :=
    ⟨⟨rfl, trivial⟩, ⟨rfl, by rw [okIns_ints]; trivial⟩, ⟨rfl, by rw [boolsF_okIns]; trivial⟩, trivial⟩
  refine lcall_of_vc tyok Try.func9 rfl (by rfl) Try.results9 Try.ntmps9 ?_; intro C hD
  simp (maxSteps := 2000000) only [↓vP0, vQ0, vT0, simprocAttr]
  refine callK_pure (c_rRefValid t dx dy ty kd) rfl rfl ?_
  have e6 : decide ((6 : Int) < n) = true := dT (by omega)
  by_cases ho : OptOk t dx dy kd
  case neg =>
    simp (maxSteps := 2000000) only [↓vP0, vQ0, vT0, simprocAttr, dN ho]
    refine callK_pure (c_Awake) rfl rfl ?_
    simp (maxSteps := 2000000) only [↓vP0, vQ0, vT0, simprocAttr]
    exact exit_keep (L1 := [AObj.ro [] 48, .ro (ints .u8 q) 5, .ro (boolsF bits) 4]) ⟨rfl, rfl⟩ trivial hkeep
  simp (maxSteps := 2000000) only [↓vP0, vQ0, vT0, simprocAttr, dT ho]
  refine callK_read (c_rIsBitmap w' v' q hql) [1] ?_ ?_ ?_ rfl ?_
  · simp [ren, rens, sg, sig, okIn, okIns, exK, leK, leF, leV, matK, objM, renO, roSame, lh, born, AObj.born, AObj.live, injOk, kindOf, rens_ints, okIns_ints, List.range, List.range.loop, mrg, mset]
  · simp [ren, rens, sg, sig, okIn, okIns, exK, leK, leF, leV, matK, objM, renO, roSame, lh, born, AObj.born, AObj.live, injOk, kindOf, rens_ints, okIns_ints, List.range, List.range.loop, mrg, mset]
  · simp [ren, rens, sg, sig, okIn, okIns, exK, leK, leF, leV, matK, objM, renO, roSame, lh, born, AObj.born, AObj.live, injOk, kindOf, rens_ints, okIns_ints, List.range, List.range.loop, mrg, mset]
  cases hr1 : bmB w' v' q with
  | false =>
    simp (maxSteps := 2000000) only [↓vP0, vQ0, vT0, simprocAttr]
    refine callK_pure (c_Awake) rfl rfl ?_
    simp (maxSteps := 2000000) only [↓vP0, vQ0, vT0, simprocAttr]
    exact exit_keep (L1 := [AObj.ro [] 48, .ro (ints .u8 q) 5, .ro (boolsF bits) 4]) ⟨rfl, rfl⟩ trivial hkeep
  | true =>
    by_cases b0 : base < 1
    · simp (maxSteps := 2000000) only [↓vP0, vQ0, vT0, simprocAttr, dT b0]
      refine callK_pure (c_Awake) rfl rfl ?_
      simp (maxSteps := 2000000) only [↓vP0, vQ0, vT0, simprocAttr]
      exact exit_keep (L1 := [AObj.ro [] 48, .ro (ints .u8 q) 5, .ro (boolsF bits) 4]) ⟨rfl, rfl⟩ trivial hkeep
    by_cases b1 : 3000 < base
    · simp (maxSteps := 2000000) only [↓vP0, vQ0, vT0, simprocAttr, dN b0, dT b1]
      refine callK_pure (c_Awake) rfl rfl ?_
      simp (maxSteps := 2000000) only [↓vP0, vQ0, vT0, simprocAttr]
      exact exit_keep (L1 := [AObj.ro [] 48, .ro (ints .u8 q) 5, .ro (boolsF bits) 4]) ⟨rfl, rfl⟩ trivial hkeep
    simp (maxSteps := 2000000) only [↓vP0, vQ0, vT0, simprocAttr, dN b0, dN b1, e6]
    refine callK_pure (c_Awake) rfl rfl ?_
    simp (maxSteps := 2000000) only [↓vP0, vQ0, vT0, simprocAttr]
    exact exit_keep (L1 := [AObj.ro [] 48, .ro (ints .u8 q) 5, .ro (boolsF bits) 4]) ⟨rfl, rfl⟩ trivial hkeep

end Go.Proofs.Ytbfefpkhalegmaa

set_option linter.unusedVariables false
set_option linter.unusedSimpArgs false
namespace Go.Proofs.Ytbfefpkhalegmaa
open Go
set_option maxHeartbeats 4000000
set_option maxRecDepth 20000

theorem c_RefinePuts (t dx dy : Int) (hdx : I64 dx) (hdy : I64 dy) (ty : Bool) (kd : Int) (l : List Bm) (hl : l.length ≤ 6) (hlb : ∀ i, i < 6 → ByOk (l.getD i bm0).2.2 ∧ (l.getD i bm0).2.2.length ≤ big) (w' v' : Int) (q : List Int) (hql : q.length ≤ big) (hbq : ByOk q) (base : Int) (bits : List Bool) (hbl : bits.length ≤ big) :
    LCall Try.prog 9 [optV t dx dy ty kd, .slice 0 0 l.length, bmV w' v' 1 q.length, .int .i64 base, .slice 2 0 bits.length] (lawL l q bits) fun r L =>
      r = .bool true ∧ L = lawL l q bits := by
  have hkeep : keepL 9 (lawL l q bits) (lawL l q bits) := by
    refine ⟨⟨rfl, lawL_ok (n := 6) (by omega) hl (by omega)⟩, ⟨rfl, by rw [okIns_ints]; trivial⟩, ⟨rfl, by rw [boolsF_okIns]; trivial⟩, ⟨rfl, by rw [okIns_ints]; trivial⟩, ⟨rfl, by rw [okIns_ints]; trivial⟩, ⟨rfl, by rw [okIns_ints]; trivial⟩, ⟨rfl, by rw [okIns_ints]; trivial⟩, ⟨rfl, by rw [okIns_ints]; trivial⟩, ⟨rfl, by rw [okIns_ints]; trivial⟩, trivial⟩
  refine lcall_of_vc tyok Try.func9 rfl (by rfl) Try.results9 Try.ntmps9 ?_; intro C hD
  simp (maxSteps := 2000000) only [↓vP0, vQ0, vT0, simprocAttr]
  refine callK_pure (c_rRefValid t dx dy ty kd) rfl rfl ?_
  by_cases ho : OptOk t dx dy kd
  case neg =>
    simp (maxSteps := 2000000) only [↓vP0, vQ0, vT0, simprocAttr, dN ho]
    refine callK_pure (c_Awake) rfl rfl ?_
    simp (maxSteps := 2000000) only [↓vP0, vQ0, vT0, simprocAttr]
    exact exit_keep (L1 := lawL l q bits) ⟨rfl, rfl⟩ trivial hkeep
  simp (maxSteps := 2000000) only [↓vP0, vQ0, vT0, simprocAttr, dT ho]
  refine callK_read (c_rIsBitmap w' v' q hql) [1] ?_ ?_ ?_ rfl ?_
  · simp [ren, rens, sg, sig, okIn, okIns, exK, leK, leF, leV, matK, objM, renO, roSame, lh, born, AObj.born, AObj.live, injOk, kindOf, rens_ints, okIns_ints, List.range, List.range.loop, mrg, mset]
  · simp [ren, rens, sg, sig, okIn, okIns, exK, leK, leF, leV, matK, objM, renO, roSame, lh, born, AObj.born, AObj.live, injOk, kindOf, rens_ints, okIns_ints, List.range, List.range.loop, mrg, mset]
  · simp [ren, rens, sg, sig, okIn, okIns, exK, leK, leF, leV, matK, objM, renO, roSame, lh, born, AObj.born, AObj.live, injOk, kindOf, rens_ints, okIns_ints, List.range, List.range.loop, mrg, mset]
  cases hr1 : bmB w' v' q with
  | false =>
    simp (maxSteps := 2000000) only [↓vP0, vQ0, vT0, simprocAttr]
    refine callK_pure (c_Awake) rfl rfl ?_
    simp (maxSteps := 2000000) only [↓vP0, vQ0, vT0, simprocAttr]
    exact exit_keep (L1 := lawL l q bits) ⟨rfl, rfl⟩ trivial hkeep
  | true =>
  by_cases b0 : base < 1
  · simp (maxSteps := 2000000) only [↓vP0, vQ0, vT0, simprocAttr, dT b0]
    refine callK_pure (c_Awake) rfl rfl ?_
    simp (maxSteps := 2000000) only [↓vP0, vQ0, vT0, simprocAttr]
    exact exit_keep (L1 := lawL l q bits) ⟨rfl, rfl⟩ trivial hkeep
  by_cases b1 : 3000 < base
  · simp (maxSteps := 2000000) only [↓vP0, vQ0, vT0, simprocAttr, dN b0, dT b1]
    refine callK_pure (c_Awake) rfl rfl ?_
    simp (maxSteps := 2000000) only [↓vP0, vQ0, vT0, simprocAttr]
    exact exit_keep (L1 := lawL l q bits) ⟨rfl, rfl⟩ trivial hkeep
  have e6 : decide ((6 : Int) < l.length) = false := dN (by omega)
  by_cases b2 : (bits.length : Int) < l.length
  · simp (maxSteps := 2000000) only [↓vP0, vQ0, vT0, simprocAttr, dN b0, dN b1, e6, dT b2]
    refine callK_pure (c_Awake) rfl rfl ?_
    simp (maxSteps := 2000000) only [↓vP0, vQ0, vT0, simprocAttr]
    exact exit_keep (L1 := lawL l q bits) ⟨rfl, rfl⟩ trivial hkeep
  obtain ⟨b, rfl⟩ : ∃ b : Nat, base = (b : Int) := ⟨_, (Int.toNat_of_nonneg (by omega)).symm⟩
  have hs0 : sizeN t = 513 ∨ sizeN t = 129 := by unfold sizeN; split <;> simp
  obtain ⟨hr, hq⟩ := bmB_ok hbq hr1
  have hsz := c_r8Size t
  rw [show (if t = 0 then 513 else if t = 1 then 129 else 0 : Int) = sizeN t by unfold sizeN; rcases ho.1 with rfl | rfl <;> rfl, if_pos ho.1] at hsz
  obtain ⟨n, hn⟩ : ∃ n : Nat, (b : Int) + sizeN t = (n : Int) := ⟨_, (Int.toNat_of_nonneg (by omega)).symm⟩
  have hbn : b + (sizeN t).toNat = n := by omega
  have hz := zeros_ok ho.2.1 (n := n) (by omega)
  have hN := encNew_ok hz
  have hst0 : (encNew kd (zeros n)).st.length = n := by simp [encNew, zeros]
  have ew : IntKind.i64.wrap ((b : Int) + sizeN t) = (n : Int) := by rw [hn]; simp (disch := omega) only [wr64, wru64, wru8, tdv, tmd, fdv]
  simp (maxSteps := 2000000) only [↓vP0, vQ0, vT0, simprocAttr, dN b0, dN b1, e6, dN b2]
  refine callK_pure (hsz) rfl rfl ?_
  simp (maxSteps := 2000000) only [↓vP0, vQ0, vT0, simprocAttr]
  refine drawL_of tyok rfl [(7, 13, 60)] (usL [[], [5, 7]]) (fun i => .fresh 11) (by kernel_rfl) ?_
  simp (maxSteps := 2000000) only [↓vP0, vQ0, vT0, simprocAttr, ew]
  refine chk_intro (by omega) ?_
  simp (maxSteps := 2000000) only [↓vP0, vQ0, vT0, simprocAttr, ew]
  refine callK_det (c_pNewEncoder kd (zeros n) hz) [11] ?_ ?_ ?_ rfl (by simp [zeros]) ?_
  · simp [ren, rens, sg, sig, okIn, okIns, exK, leK, leF, leV, matK, objM, renO, roSame, lh, born, AObj.born, AObj.live, injOk, kindOf, rens_ints, okIns_ints, List.range, List.range.loop, mrg, mset, zeros]
  · simp [ren, rens, sg, sig, okIn, okIns, exK, leK, leF, leV, matK, objM, renO, roSame, lh, born, AObj.born, AObj.live, injOk, kindOf, rens_ints, okIns_ints, List.range, List.range.loop, mrg, mset, zeros]
  · simp [ren, rens, sg, sig, okIn, okIns, exK, leK, leF, leV, matK, objM, renO, roSame, lh, born, AObj.born, AObj.live, injOk, kindOf, rens_ints, okIns_ints, List.range, List.range.loop, mrg, mset, zeros]
  simp (maxSteps := 2000000) only [↓vP0, vQ0, vT0, simprocAttr, pEncC_rens]
  refine callK_det (c_rNewEncoder kd (zeros n) hz) [11] ?_ ?_ ?_ rfl (by simp [zeros]) ?_
  · simp [ren, rens, sg, sig, okIn, okIns, exK, leK, leF, leV, matK, objM, renO, roSame, lh, born, AObj.born, AObj.live, injOk, kindOf, rens_ints, okIns_ints, List.range, List.range.loop, mrg, mset, zeros]
  · simp [ren, rens, sg, sig, okIn, okIns, exK, leK, leF, leV, matK, objM, renO, roSame, lh, born, AObj.born, AObj.live, injOk, kindOf, rens_ints, okIns_ints, List.range, List.range.loop, mrg, mset, zeros]
  · simp [ren, rens, sg, sig, okIn, okIns, exK, leK, leF, leV, matK, objM, renO, roSame, lh, born, AObj.born, AObj.live, injOk, kindOf, rens_ints, okIns_ints, List.range, List.range.loop, mrg, mset, zeros]
  simp (maxSteps := 2000000) only [↓vP0, vQ0, vT0, simprocAttr, rEncC_rens]
  have facts : ∀ i, i ≤ l.length → (∀ j, j < i → bmT (l.getD j bm0) = true) →
      (encAll (encNew kd (zeros n)) (evU t dx dy ty b w' v' q l bits i)).Ok ∧ (encAll (encNew kd (zeros n)) (evU t dx dy ty b w' v' q l bits i)).kd = kd ∧ (encAll (encNew kd (zeros n)) (evU t dx dy ty b w' v' q l bits i)).st.length = n ∧ (encAll (encNew kd (zeros n)) (evU t dx dy ty b w' v' q l bits i)).out.length ≤ 1000000 := by
    intro i hi hok
    obtain ⟨a1, a2⟩ := evU_ok (t := t) (dx := dx) (dy := dy) (ty := ty) (base := b) (w' := w') (v' := v') (bits := bits) ho.1 hq i fun j hj => by
      obtain ⟨c1, c2⟩ := bmB_ok (hlb j (by omega)).1 (hok j hj); exact ⟨c2, c1⟩
    obtain ⟨d1, d2, d3, d4⟩ := encAll_ok _ _ hN (show EvsOk (encNew kd (zeros n)).st.length _ by rw [hst0, ← hbn]; exact a1)
    have h0 : (encNew kd (zeros n)).out.length = 0 := by simp [encNew]
    exact ⟨d1, d2, d3.trans hst0, by omega⟩
  have step : ∀ i, encAll (encNew kd (zeros n)) (evU t dx dy ty b w' v' q l bits (i + 1)) = encAll ((encAll (encNew kd (zeros n)) (evU t dx dy ty b w' v' q l bits i)).put 0 (bit01 (bits.getD i false))) (mv b (refEv t dx dy ty (l.getD i bm0).1 (l.getD i bm0).2.1 (l.getD i bm0).2.2 w' v' q)) := by
    intro i
    have e : evU t dx dy ty b w' v' q l bits (i + 1) = evU t dx dy ty b w' v' q l bits i ++ evQ t dx dy ty b w' v' q l bits i := range_flat_succ _ _
    rw [e, encAll_app]; rfl
  have hbr : ∀ π, rens (sg 9 π) (bmsF 3 l) = bmsF 3 l := fun π => bmsF_rens _ 3 l fun i hi => by simp only [sg]; rw [if_pos (by omega)]
  have hbo : ∀ c0 e0 c1 e1 c2 e2 c3 e3 c4 e4 c5 e5 c6 e6 c7 e7 c8 e8 rest, okIns (born (lh (.ro c0 e0 :: .ro c1 e1 :: .ro c2 e2 :: .ro c3 e3 :: .ro c4 e4 :: .ro c5 e5 :: .ro c6 e6 :: .ro c7 e7 :: .ro c8 e8 :: rest))) (bmsF 3 l) = True := by
    intro c0 e0 c1 e1 c2 e2 c3 e3 c4 e4 c5 e5 c6 e6 c7 e7 c8 e8 rest
    refine eq_true (bmsF_okIns _ 3 l fun i hi => ?_)
    rcases (show i = 0 ∨ i = 1 ∨ i = 2 ∨ i = 3 ∨ i = 4 ∨ i = 5 by omega) with rfl | rfl | rfl | rfl | rfl | rfl <;> trivial
  refine loopK_ren tyok hD (α := Nat) (fun i => i ≤ l.length ∧ ∀ j, j < i → bmT (l.getD j bm0) = true) (fun i => l.length - i)
    (fun i => [.junk, .slice 0 0 l.length, .junk, .int .i64 b, .slice 2 0 bits.length, .ptr 9 0, .junk, .ptr 10 0, .junk, .junk, .junk, .junk, .junk, .ptr 12 0, .ptr 13 0, .junk, .ptr 16 0, .junk, .junk, .junk, .junk, .junk, .junk, .junk, .junk, .junk, .junk, .junk, .junk, .junk, .junk, .junk, .junk, .junk, .junk, .junk, .junk, .junk, .junk, .junk, .junk, .junk, .junk, .junk, .junk, .junk, .junk, .junk, .junk, .junk, .junk, .junk, .junk, .junk, .junk, .junk, .junk, .junk, .junk, .junk, .junk, .junk, .junk, .junk, .junk, .junk, .junk, .junk, .junk, .junk, .junk, .junk, .junk, .junk, .junk, .junk, .junk, .junk, .junk, .junk, .junk, .junk, .junk, .slice 0 0 l.length, .int .i64 l.length, .int .i64 i, .junk, .junk, .junk, .junk, .junk, .junk, .junk, .junk, .junk, .junk, .junk, .junk, .junk, .junk, .junk, .junk, .junk, .junk, .junk, .junk, .junk, .junk, .junk, .junk, .junk, .junk, .junk, .junk, .junk, .junk, .junk, .junk, .junk, .junk, .junk, .junk, .junk, .junk, .junk, .junk, .junk, .junk, .junk, .junk, .junk, .junk, .junk, .junk, .junk, .junk, .junk, .junk, .junk, .junk, .junk, .junk, .junk, .junk, .junk, .junk, .junk, .junk, .junk, .junk, .junk, .junk, .junk, .junk, .junk, .junk, .junk, .junk, .junk, .junk, .junk, .junk, .junk, .junk, .junk, .junk, .junk, .junk, .junk, .junk, .junk, .junk, .junk, .junk, .junk, .junk, .junk, .junk, .junk, .junk, .junk, .junk, .junk, .junk, .junk, .junk, .junk, .junk, .junk, .junk, .junk, .junk, .junk, .junk, .junk, .junk, .junk, .junk, .junk, .junk])
    (fun i => lawL l q bits ++ [optC t dx dy ty kd, bmC w' v' 1 q.length, .own (ints .i64 (zeros n)) 3, .own [.int .i64 kd, .slice 11 0 n] 60,
      .own (pEncC (encAll (encNew kd (zeros n)) (evU t dx dy ty b w' v' q l bits i)) 14 15) 126, .own (ints .i64 (encAll (encNew kd (zeros n)) (evU t dx dy ty b w' v' q l bits i)).st) 3, .own (ints .u8 (encAll (encNew kd (zeros n)) (evU t dx dy ty b w' v' q l bits i)).out) 5,
      .own (rEncC (encAll (encNew kd (zeros n)) (evU t dx dy ty b w' v' q l bits i)) 17 18) 132, .own (ints .i64 (encAll (encNew kd (zeros n)) (evU t dx dy ty b w' v' q l bits i)).st) 3, .own (ints .u8 (encAll (encNew kd (zeros n)) (evU t dx dy ty b w' v' q l bits i)).out) 5]) 0 ⟨by omega, fun j hj => by omega⟩ ⟨[9, 10, 11, 12, 13, 14, 15, 16, 17, 18], ?_⟩ ?_
  · have h0 : evU t dx dy ty b w' v' q l bits 0 = [] := rfl
    simp only [leR, h0, encAll]
    simp [ren, rens, sg, sig, okIn, okIns, exK, leK, leF, leV, matK, objM, renO, roSame, lh, born, AObj.born, AObj.live, injOk, kindOf, rens_ints, okIns_ints, List.range, List.range.loop, mrg, mset, leF, leV, leK, pEncC_rens, pEncC_okIns, pEncC_inj, rEncC_rens, rEncC_okIns, rEncC_inj, encNew, ints_nil, boolsF_rens, boolsF_okIns, hbr, hbo, zeros]
  rintro i ⟨hi, hok⟩
  obtain ⟨k1, k2, k3, k4⟩ := facts i hi hok
  have hst := step i
  have hnext : ∀ j, bmT (l.getD i bm0) = true → j < i + 1 → bmT (l.getD j bm0) = true := fun j hT hj => by
    by_cases hji : j = i
    · rw [hji]; exact hT
    · exact hok j (by omega)
  simp (maxSteps := 2000000) only [↓vP0, vQ0, vT0, simprocAttr]
  (with_reducible first | refine condK_dec (fun h => ?_) (fun h => ?_) | refine condK_beq (fun h => ?_) (fun h => ?_) | refine condK_bne (fun h => ?_) (fun h => ?_) | refine condK_intro (fun h => ?_) (fun h => ?_))
  · have hil : i < l.length := by omega
    rcases (show i = 0 ∨ i = 1 ∨ i = 2 ∨ i = 3 ∨ i = 4 ∨ i = 5 by omega) with rfl | rfl | rfl | rfl | rfl | rfl
    · have g : ((bmsF 3 l).drop 0).take 3 = [.int .i64 (l.getD 0 bm0).1, .int .i64 (l.getD 0 bm0).2.1, .slice 3 0 (l.getD 0 bm0).2.2.length] := bmsF_get 3 l 0 hil
      rw [List.drop_zero] at g
      have gb := boolsF_get bits 0 (by omega)
      have hlen := bmsF_len 3 l
      obtain ⟨hby, hbg⟩ := hlb 0 (by omega)
      generalize encAll (encNew kd (zeros n)) (evU t dx dy ty b w' v' q l bits 0) = E at k1 k2 k3 k4 hst
      simp (maxSteps := 2000000) only [↓vP0, vQ0, vT0, simprocAttr]
      refine chk_intro (by omega) ?_
      simp (maxSteps := 2000000) only [↓vP0, vQ0, vT0, simprocAttr, g]
      refine chk_intro (by omega) ?_
      simp (maxSteps := 2000000) only [↓vP0, vQ0, vT0, simprocAttr, g]
      refine callK_read (c_rIsBitmap (l.getD 0 bm0).1 (l.getD 0 bm0).2.1 (l.getD 0 bm0).2.2 hbg) [3] ?_ ?_ ?_ rfl ?_
      · simp [ren, rens, sg, sig, okIn, okIns, exK, leK, leF, leV, matK, objM, renO, roSame, lh, born, AObj.born, AObj.live, injOk, kindOf, rens_ints, okIns_ints, List.range, List.range.loop, mrg, mset]
      · simp [ren, rens, sg, sig, okIn, okIns, exK, leK, leF, leV, matK, objM, renO, roSame, lh, born, AObj.born, AObj.live, injOk, kindOf, rens_ints, okIns_ints, List.range, List.range.loop, mrg, mset]
      · simp [ren, rens, sg, sig, okIn, okIns, exK, leK, leF, leV, matK, objM, renO, roSame, lh, born, AObj.born, AObj.live, injOk, kindOf, rens_ints, okIns_ints, List.range, List.range.loop, mrg, mset]
      cases hT : bmB (l.getD 0 bm0).1 (l.getD 0 bm0).2.1 (l.getD 0 bm0).2.2 with
      | false =>
        have ha : askErr t dx dy kd (bmB (l.getD 0 bm0).1 (l.getD 0 bm0).2.1 (l.getD 0 bm0).2.2 && bmB w' v' q) b E.st.length = 30 := by rw [askErr, if_neg (not_not_intro ho), hT, Bool.false_and, if_pos rfl]
        have hc := c_p8PutErr E b (by omega) t dx dy hdx hdy ty kd (l.getD 0 bm0).1 (l.getD 0 bm0).2.1 w' v' (l.getD 0 bm0).2.2 q hbg hql (by omega) (by rw [ha]; omega)
        rw [ha] at hc
        simp (maxSteps := 2000000) only [↓vP0, vQ0, vT0, simprocAttr]
        refine callK_read (hc) [13, 14, 15, 3, 1] ?_ ?_ ?_ rfl ?_
        · simp [ren, rens, sg, sig, okIn, okIns, exK, leK, leF, leV, matK, objM, renO, roSame, lh, born, AObj.born, AObj.live, injOk, kindOf, rens_ints, okIns_ints, List.range, List.range.loop, mrg, mset, pEncL, pEncC_rens, pEncC_okIns, pEncC_inj]
        · simp [ren, rens, sg, sig, okIn, okIns, exK, leK, leF, leV, matK, objM, renO, roSame, lh, born, AObj.born, AObj.live, injOk, kindOf, rens_ints, okIns_ints, List.range, List.range.loop, mrg, mset, pEncL, pEncC_rens, pEncC_okIns, pEncC_inj]
        · simp [ren, rens, sg, sig, okIn, okIns, exK, leK, leF, leV, matK, objM, renO, roSame, lh, born, AObj.born, AObj.live, injOk, kindOf, rens_ints, okIns_ints, List.range, List.range.loop, mrg, mset, pEncL, pEncC_rens, pEncC_okIns, pEncC_inj]
        simp (maxSteps := 2000000) only [↓vP0, vQ0, vT0, simprocAttr]
        refine callK_pure (c_Awake) rfl rfl ?_
        simp (maxSteps := 2000000) only [↓vP0, vQ0, vT0, simprocAttr]
        exact exit_keep (L1 := lawL l q bits) ⟨rfl, rfl⟩ trivial hkeep
      | true =>
        obtain ⟨hbm, hpx⟩ := bmB_ok hby hT
        simp (maxSteps := 2000000) only [↓vP0, vQ0, vT0, simprocAttr]
        refine chk_intro (by omega) ?_
        have hput : ∀ z : Int, KdOk z → (E.put 0 z).Ok ∧ (E.put 0 z).st.length = n ∧ (E.put 0 z).out.length ≤ 1000004 := by
          intro z hz
          obtain ⟨p1, p2, p3, p4⟩ := put_ok (c := 0) (bit := z) k1 (by omega) hz
          exact ⟨p1, by rw [p3]; simp [k3], by omega⟩
        have go : ∀ z : Int, KdOk z → bit01 (bits.getD 0 false) = z → encAll ((E.put 0 z)) (mv b (refEv t dx dy ty (l.getD 0 bm0).1 (l.getD 0 bm0).2.1 (l.getD 0 bm0).2.2 w' v' q)) = encAll (encNew kd (zeros n)) (evU t dx dy ty b w' v' q l bits 1) := by
          intro z _ hz; rw [← hz]; exact hst.symm
        have hpl := bmOk_len hbm
        cases hbit : bits.getD 0 false with
        | true =>
          obtain ⟨p1, p2, p3⟩ := hput 1 (by simp [KdOk])
          have hgo := go 1 (by simp [KdOk]) (by rw [hbit]; rfl)
          have c1 := c_rPut E k1 0 (by omega) 1 (by simp [KdOk]) (by omega)
          have c2 := c_r8Put (E.put 0 1) p1 b t dx dy ty kd ho (l.getD 0 bm0).1 (l.getD 0 bm0).2.1 w' v' (l.getD 0 bm0).2.2 q hbm hr hpx hq hT hr1 (by omega) (by omega) (by omega) _ rfl
          have c3 := c_pPut E k1 0 (by omega) 1 (by simp [KdOk]) (by omega)
          have c4 := c_p8Put (E.put 0 1) p1 b t dx dy ty kd ho (l.getD 0 bm0).1 (l.getD 0 bm0).2.1 w' v' (l.getD 0 bm0).2.2 q hbm hr hpx hq hT hr1 (by omega) (by omega) (by omega) _ rfl
          rw [hgo] at c2 c4
          generalize E.put 0 1 = E1 at c1 c2 c3 c4
          generalize hE2 : encAll (encNew kd (zeros n)) (evU t dx dy ty b w' v' q l bits 1) = E2 at c2 c4
          simp (maxSteps := 2000000) only [↓vP0, vQ0, vT0, simprocAttr, gb, hbit]
          refine callK_det (c1) [16, 17, 18] ?_ ?_ ?_ rfl (by simp [rEncL, rEncM, rEncC_rens, rEncC_okIns, rEncC_inj]) ?_
          · simp [ren, rens, sg, sig, okIn, okIns, exK, leK, leF, leV, matK, objM, renO, roSame, lh, born, AObj.born, AObj.live, injOk, kindOf, rens_ints, okIns_ints, List.range, List.range.loop, mrg, mset, rEncL, rEncM, rEncC_rens, rEncC_okIns, rEncC_inj]
          · simp [ren, rens, sg, sig, okIn, okIns, exK, leK, leF, leV, matK, objM, renO, roSame, lh, born, AObj.born, AObj.live, injOk, kindOf, rens_ints, okIns_ints, List.range, List.range.loop, mrg, mset, rEncL, rEncM, rEncC_rens, rEncC_okIns, rEncC_inj]
          · simp [ren, rens, sg, sig, okIn, okIns, exK, leK, leF, leV, matK, objM, renO, roSame, lh, born, AObj.born, AObj.live, injOk, kindOf, rens_ints, okIns_ints, List.range, List.range.loop, mrg, mset, rEncL, rEncM, rEncC_rens, rEncC_okIns, rEncC_inj]
          simp only [rEncL, rEncM]
          simp (maxSteps := 2000000) only [↓vP0, vQ0, vT0, simprocAttr, rEncC_rens]
          refine callK_det (c2) [16, 17, 20, 3, 1] ?_ ?_ ?_ rfl (by simp [rEncL, rEncC_rens, rEncC_okIns, rEncC_inj]) ?_
          · simp [ren, rens, sg, sig, okIn, okIns, exK, leK, leF, leV, matK, objM, renO, roSame, lh, born, AObj.born, AObj.live, injOk, kindOf, rens_ints, okIns_ints, List.range, List.range.loop, mrg, mset, rEncL, rEncC_rens, rEncC_okIns, rEncC_inj]
          · simp [ren, rens, sg, sig, okIn, okIns, exK, leK, leF, leV, matK, objM, renO, roSame, lh, born, AObj.born, AObj.live, injOk, kindOf, rens_ints, okIns_ints, List.range, List.range.loop, mrg, mset, rEncL, rEncC_rens, rEncC_okIns, rEncC_inj]
          · simp [ren, rens, sg, sig, okIn, okIns, exK, leK, leF, leV, matK, objM, renO, roSame, lh, born, AObj.born, AObj.live, injOk, kindOf, rens_ints, okIns_ints, List.range, List.range.loop, mrg, mset, rEncL, rEncC_rens, rEncC_okIns, rEncC_inj]
          simp only [rEncL]
          simp (maxSteps := 2000000) only [↓vP0, vQ0, vT0, simprocAttr, rEncC_rens]
          refine callK_det (c3) [13, 14, 15] ?_ ?_ ?_ rfl (by simp [pEncL, pEncM, pEncC_rens, pEncC_okIns, pEncC_inj]) ?_
          · simp [ren, rens, sg, sig, okIn, okIns, exK, leK, leF, leV, matK, objM, renO, roSame, lh, born, AObj.born, AObj.live, injOk, kindOf, rens_ints, okIns_ints, List.range, List.range.loop, mrg, mset, pEncL, pEncM, pEncC_rens, pEncC_okIns, pEncC_inj]
          · simp [ren, rens, sg, sig, okIn, okIns, exK, leK, leF, leV, matK, objM, renO, roSame, lh, born, AObj.born, AObj.live, injOk, kindOf, rens_ints, okIns_ints, List.range, List.range.loop, mrg, mset, pEncL, pEncM, pEncC_rens, pEncC_okIns, pEncC_inj]
          · simp [ren, rens, sg, sig, okIn, okIns, exK, leK, leF, leV, matK, objM, renO, roSame, lh, born, AObj.born, AObj.live, injOk, kindOf, rens_ints, okIns_ints, List.range, List.range.loop, mrg, mset, pEncL, pEncM, pEncC_rens, pEncC_okIns, pEncC_inj]
          simp only [pEncL, pEncM]
          simp (maxSteps := 2000000) only [↓vP0, vQ0, vT0, simprocAttr, pEncC_rens]
          refine callK_det (c4) [13, 14, 22, 3, 1] ?_ ?_ ?_ rfl (by simp [pEncL, pEncC_rens, pEncC_okIns, pEncC_inj]) ?_
          · simp [ren, rens, sg, sig, okIn, okIns, exK, leK, leF, leV, matK, objM, renO, roSame, lh, born, AObj.born, AObj.live, injOk, kindOf, rens_ints, okIns_ints, List.range, List.range.loop, mrg, mset, pEncL, pEncC_rens, pEncC_okIns, pEncC_inj]
          · simp [ren, rens, sg, sig, okIn, okIns, exK, leK, leF, leV, matK, objM, renO, roSame, lh, born, AObj.born, AObj.live, injOk, kindOf, rens_ints, okIns_ints, List.range, List.range.loop, mrg, mset, pEncL, pEncC_rens, pEncC_okIns, pEncC_inj]
          · simp [ren, rens, sg, sig, okIn, okIns, exK, leK, leF, leV, matK, objM, renO, roSame, lh, born, AObj.born, AObj.live, injOk, kindOf, rens_ints, okIns_ints, List.range, List.range.loop, mrg, mset, pEncL, pEncC_rens, pEncC_okIns, pEncC_inj]
          simp only [pEncL]
          simp (maxSteps := 2000000) only [↓vP0, vQ0, vT0, simprocAttr, pEncC_rens]
          refine ⟨1, ⟨by omega, fun j hj => hnext j hT hj⟩, by omega, [9, 10, 11, 12, 13, 14, 23, 16, 17, 21], ?_⟩
          simp only [leR, hE2]
          simp [ren, rens, sg, sig, okIn, okIns, exK, leK, leF, leV, matK, objM, renO, roSame, lh, born, AObj.born, AObj.live, injOk, kindOf, rens_ints, okIns_ints, List.range, List.range.loop, mrg, mset, leF, leV, leK, pEncC_rens, pEncC_okIns, pEncC_inj, rEncC_rens, rEncC_okIns, rEncC_inj, boolsF_rens, boolsF_okIns, hbr, hbo, (show IntKind.i64.wrap 1 = 1 by decide)]
        | false =>
          obtain ⟨p1, p2, p3⟩ := hput 0 (by simp [KdOk])
          have hgo := go 0 (by simp [KdOk]) (by rw [hbit]; rfl)
          have c1 := c_rPut E k1 0 (by omega) 0 (by simp [KdOk]) (by omega)
          have c2 := c_r8Put (E.put 0 0) p1 b t dx dy ty kd ho (l.getD 0 bm0).1 (l.getD 0 bm0).2.1 w' v' (l.getD 0 bm0).2.2 q hbm hr hpx hq hT hr1 (by omega) (by omega) (by omega) _ rfl
          have c3 := c_pPut E k1 0 (by omega) 0 (by simp [KdOk]) (by omega)
          have c4 := c_p8Put (E.put 0 0) p1 b t dx dy ty kd ho (l.getD 0 bm0).1 (l.getD 0 bm0).2.1 w' v' (l.getD 0 bm0).2.2 q hbm hr hpx hq hT hr1 (by omega) (by omega) (by omega) _ rfl
          rw [hgo] at c2 c4
          generalize E.put 0 0 = E1 at c1 c2 c3 c4
          generalize hE2 : encAll (encNew kd (zeros n)) (evU t dx dy ty b w' v' q l bits 1) = E2 at c2 c4
          simp (maxSteps := 2000000) only [↓vP0, vQ0, vT0, simprocAttr, gb, hbit]
          refine callK_det (c1) [16, 17, 18] ?_ ?_ ?_ rfl (by simp [rEncL, rEncM, rEncC_rens, rEncC_okIns, rEncC_inj]) ?_
          · simp [ren, rens, sg, sig, okIn, okIns, exK, leK, leF, leV, matK, objM, renO, roSame, lh, born, AObj.born, AObj.live, injOk, kindOf, rens_ints, okIns_ints, List.range, List.range.loop, mrg, mset, rEncL, rEncM, rEncC_rens, rEncC_okIns, rEncC_inj]
          · simp [ren, rens, sg, sig, okIn, okIns, exK, leK, leF, leV, matK, objM, renO, roSame, lh, born, AObj.born, AObj.live, injOk, kindOf, rens_ints, okIns_ints, List.range, List.range.loop, mrg, mset, rEncL, rEncM, rEncC_rens, rEncC_okIns, rEncC_inj]
          · simp [ren, rens, sg, sig, okIn, okIns, exK, leK, leF, leV, matK, objM, renO, roSame, lh, born, AObj.born, AObj.live, injOk, kindOf, rens_ints, okIns_ints, List.range, List.range.loop, mrg, mset, rEncL, rEncM, rEncC_rens, rEncC_okIns, rEncC_inj]
          simp only [rEncL, rEncM]
          simp (maxSteps := 2000000) only [↓vP0, vQ0, vT0, simprocAttr, rEncC_rens]
          refine callK_det (c2) [16, 17, 20, 3, 1] ?_ ?_ ?_ rfl (by simp [rEncL, rEncC_rens, rEncC_okIns, rEncC_inj]) ?_
          · simp [ren, rens, sg, sig, okIn, okIns, exK, leK, leF, leV, matK, objM, renO, roSame, lh, born, AObj.born, AObj.live, injOk, kindOf, rens_ints, okIns_ints, List.range, List.range.loop, mrg, mset, rEncL, rEncC_rens, rEncC_okIns, rEncC_inj]
          · simp [ren, rens, sg, sig, okIn, okIns, exK, leK, leF, leV, matK, objM, renO, roSame, lh, born, AObj.born, AObj.live, injOk, kindOf, rens_ints, okIns_ints, List.range, List.range.loop, mrg, mset, rEncL, rEncC_rens, rEncC_okIns, rEncC_inj]
          · simp [ren, rens, sg, sig, okIn, okIns, exK, leK, leF, leV, matK, objM, renO, roSame, lh, born, AObj.born, AObj.live, injOk, kindOf, rens_ints, okIns_ints, List.range, List.range.loop, mrg, mset, rEncL, rEncC_rens, rEncC_okIns, rEncC_inj]
          simp only [rEncL]
          simp (maxSteps := 2000000) only [↓vP0, vQ0, vT0, simprocAttr, rEncC_rens]
          refine callK_det (c3) [13, 14, 15] ?_ ?_ ?_ rfl (by simp [pEncL, pEncM, pEncC_rens, pEncC_okIns, pEncC_inj]) ?_
          · simp [ren, rens, sg, sig, okIn, okIns, exK, leK, leF, leV, matK, objM, renO, roSame, lh, born, AObj.born, AObj.live, injOk, kindOf, rens_ints, okIns_ints, List.range, List.range.loop, mrg, mset, pEncL, pEncM, pEncC_rens, pEncC_okIns, pEncC_inj]
          · simp [ren, rens, sg, sig, okIn, okIns, exK, leK, leF, leV, matK, objM, renO, roSame, lh, born, AObj.born, AObj.live, injOk, kindOf, rens_ints, okIns_ints, List.range, List.range.loop, mrg, mset, pEncL, pEncM, pEncC_rens, pEncC_okIns, pEncC_inj]
          · simp [ren, rens, sg, sig, okIn, okIns, exK, leK, leF, leV, matK, objM, renO, roSame, lh, born, AObj.born, AObj.live, injOk, kindOf, rens_ints, okIns_ints, List.range, List.range.loop, mrg, mset, pEncL, pEncM, pEncC_rens, pEncC_okIns, pEncC_inj]
          simp only [pEncL, pEncM]
          simp (maxSteps := 2000000) only [↓vP0, vQ0, vT0, simprocAttr, pEncC_rens]
          refine callK_det (c4) [13, 14, 22, 3, 1] ?_ ?_ ?_ rfl (by simp [pEncL, pEncC_rens, pEncC_okIns, pEncC_inj]) ?_
          · simp [ren, rens, sg, sig, okIn, okIns, exK, leK, leF, leV, matK, objM, renO, roSame, lh, born, AObj.born, AObj.live, injOk, kindOf, rens_ints, okIns_ints, List.range, List.range.loop, mrg, mset, pEncL, pEncC_rens, pEncC_okIns, pEncC_inj]
          · simp [ren, rens, sg, sig, okIn, okIns, exK, leK, leF, leV, matK, objM, renO, roSame, lh, born, AObj.born, AObj.live, injOk, kindOf, rens_ints, okIns_ints, List.range, List.range.loop, mrg, mset, pEncL, pEncC_rens, pEncC_okIns, pEncC_inj]
          · simp [ren, rens, sg, sig, okIn, okIns, exK, leK, leF, leV, matK, objM, renO, roSame, lh, born, AObj.born, AObj.live, injOk, kindOf, rens_ints, okIns_ints, List.range, List.range.loop, mrg, mset, pEncL, pEncC_rens, pEncC_okIns, pEncC_inj]
          simp only [pEncL]
          simp (maxSteps := 2000000) only [↓vP0, vQ0, vT0, simprocAttr, pEncC_rens]
          refine ⟨1, ⟨by omega, fun j hj => hnext j hT hj⟩, by omega, [9, 10, 11, 12, 13, 14, 23, 16, 17, 21], ?_⟩
          simp only [leR, hE2]
          simp [ren, rens, sg, sig, okIn, okIns, exK, leK, leF, leV, matK, objM, renO, roSame, lh, born, AObj.born, AObj.live, injOk, kindOf, rens_ints, okIns_ints, List.range, List.range.loop, mrg, mset, leF, leV, leK, pEncC_rens, pEncC_okIns, pEncC_inj, rEncC_rens, rEncC_okIns, rEncC_inj, boolsF_rens, boolsF_okIns, hbr, hbo, (show IntKind.i64.wrap 1 = 1 by decide)]
    · have g : ((bmsF 3 l).drop 3).take 3 = [.int .i64 (l.getD 1 bm0).1, .int .i64 (l.getD 1 bm0).2.1, .slice 4 0 (l.getD 1 bm0).2.2.length] := bmsF_get 3 l 1 hil
      have gb := boolsF_get bits 1 (by omega)
      have hlen := bmsF_len 3 l
      obtain ⟨hby, hbg⟩ := hlb 1 (by omega)
      generalize encAll (encNew kd (zeros n)) (evU t dx dy ty b w' v' q l bits 1) = E at k1 k2 k3 k4 hst
      simp (maxSteps := 2000000) only [↓vP0, vQ0, vT0, simprocAttr]
      refine chk_intro (by omega) ?_
      simp (maxSteps := 2000000) only [↓vP0, vQ0, vT0, simprocAttr, g]
      refine chk_intro (by omega) ?_
      simp (maxSteps := 2000000) only [↓vP0, vQ0, vT0, simprocAttr, g]
      refine callK_read (c_rIsBitmap (l.getD 1 bm0).1 (l.getD 1 bm0).2.1 (l.getD 1 bm0).2.2 hbg) [4] ?_ ?_ ?_ rfl ?_
      · simp [ren, rens, sg, sig, okIn, okIns, exK, leK, leF, leV, matK, objM, renO, roSame, lh, born, AObj.born, AObj.live, injOk, kindOf, rens_ints, okIns_ints, List.range, List.range.loop, mrg, mset]
      · simp [ren, rens, sg, sig, okIn, okIns, exK, leK, leF, leV, matK, objM, renO, roSame, lh, born, AObj.born, AObj.live, injOk, kindOf, rens_ints, okIns_ints, List.range, List.range.loop, mrg, mset]
      · simp [ren, rens, sg, sig, okIn, okIns, exK, leK, leF, leV, matK, objM, renO, roSame, lh, born, AObj.born, AObj.live, injOk, kindOf, rens_ints, okIns_ints, List.range, List.range.loop, mrg, mset]
      cases hT : bmB (l.getD 1 bm0).1 (l.getD 1 bm0).2.1 (l.getD 1 bm0).2.2 with
      | false =>
        have ha : askErr t dx dy kd (bmB (l.getD 1 bm0).1 (l.getD 1 bm0).2.1 (l.getD 1 bm0).2.2 && bmB w' v' q) b E.st.length = 30 := by rw [askErr, if_neg (not_not_intro ho), hT, Bool.false_and, if_pos rfl]
        have hc := c_p8PutErr E b (by omega) t dx dy hdx hdy ty kd (l.getD 1 bm0).1 (l.getD 1 bm0).2.1 w' v' (l.getD 1 bm0).2.2 q hbg hql (by omega) (by rw [ha]; omega)
        rw [ha] at hc
        simp (maxSteps := 2000000) only [↓vP0, vQ0, vT0, simprocAttr]
        refine callK_read (hc) [13, 14, 15, 4, 1] ?_ ?_ ?_ rfl ?_
        · simp [ren, rens, sg, sig, okIn, okIns, exK, leK, leF, leV, matK, objM, renO, roSame, lh, born, AObj.born, AObj.live, injOk, kindOf, rens_ints, okIns_ints, List.range, List.range.loop, mrg, mset, pEncL, pEncC_rens, pEncC_okIns, pEncC_inj]
        · simp [ren, rens, sg, sig, okIn, okIns, exK, leK, leF, leV, matK, objM, renO, roSame, lh, born, AObj.born, AObj.live, injOk, kindOf, rens_ints, okIns_ints, List.range, List.range.loop, mrg, mset, pEncL, pEncC_rens, pEncC_okIns, pEncC_inj]
        · simp [ren, rens, sg, sig, okIn, okIns, exK, leK, leF, leV, matK, objM, renO, roSame, lh, born, AObj.born, AObj.live, injOk, kindOf, rens_ints, okIns_ints, List.range, List.range.loop, mrg, mset, pEncL, pEncC_rens, pEncC_okIns, pEncC_inj]
        simp (maxSteps := 2000000) only [↓vP0, vQ0, vT0, simprocAttr]
        refine callK_pure (c_Awake) rfl rfl ?_
        simp (maxSteps := 2000000) only [↓vP0, vQ0, vT0, simprocAttr]
        exact exit_keep (L1 := lawL l q bits) ⟨rfl, rfl⟩ trivial hkeep
      | true =>
        obtain ⟨hbm, hpx⟩ := bmB_ok hby hT
        simp (maxSteps := 2000000) only [↓vP0, vQ0, vT0, simprocAttr]
        refine chk_intro (by omega) ?_
        have hput : ∀ z : Int, KdOk z → (E.put 0 z).Ok ∧ (E.put 0 z).st.length = n ∧ (E.put 0 z).out.length ≤ 1000004 := by
          intro z hz
          obtain ⟨p1, p2, p3, p4⟩ := put_ok (c := 0) (bit := z) k1 (by omega) hz
          exact ⟨p1, by rw [p3]; simp [k3], by omega⟩
        have go : ∀ z : Int, KdOk z → bit01 (bits.getD 1 false) = z → encAll ((E.put 0 z)) (mv b (refEv t dx dy ty (l.getD 1 bm0).1 (l.getD 1 bm0).2.1 (l.getD 1 bm0).2.2 w' v' q)) = encAll (encNew kd (zeros n)) (evU t dx dy ty b w' v' q l bits 2) := by
          intro z _ hz; rw [← hz]; exact hst.symm
        have hpl := bmOk_len hbm
        cases hbit : bits.getD 1 false with
        | true =>
          obtain ⟨p1, p2, p3⟩ := hput 1 (by simp [KdOk])
          have hgo := go 1 (by simp [KdOk]) (by rw [hbit]; rfl)
          have c1 := c_rPut E k1 0 (by omega) 1 (by simp [KdOk]) (by omega)
          have c2 := c_r8Put (E.put 0 1) p1 b t dx dy ty kd ho (l.getD 1 bm0).1 (l.getD 1 bm0).2.1 w' v' (l.getD 1 bm0).2.2 q hbm hr hpx hq hT hr1 (by omega) (by omega) (by omega) _ rfl
          have c3 := c_pPut E k1 0 (by omega) 1 (by simp [KdOk]) (by omega)
          have c4 := c_p8Put (E.put 0 1) p1 b t dx dy ty kd ho (l.getD 1 bm0).1 (l.getD 1 bm0).2.1 w' v' (l.getD 1 bm0).2.2 q hbm hr hpx hq hT hr1 (by omega) (by omega) (by omega) _ rfl
          rw [hgo] at c2 c4
          generalize E.put 0 1 = E1 at c1 c2 c3 c4
          generalize hE2 : encAll (encNew kd (zeros n)) (evU t dx dy ty b w' v' q l bits 2) = E2 at c2 c4
          simp (maxSteps := 2000000) only [↓vP0, vQ0, vT0, simprocAttr, gb, hbit]
          refine callK_det (c1) [16, 17, 18] ?_ ?_ ?_ rfl (by simp [rEncL, rEncM, rEncC_rens, rEncC_okIns, rEncC_inj]) ?_
          · simp [ren, rens, sg, sig, okIn, okIns, exK, leK, leF, leV, matK, objM, renO, roSame, lh, born, AObj.born, AObj.live, injOk, kindOf, rens_ints, okIns_ints, List.range, List.range.loop, mrg, mset, rEncL, rEncM, rEncC_rens, rEncC_okIns, rEncC_inj]
          · simp [ren, rens, sg, sig, okIn, okIns, exK, leK, leF, leV, matK, objM, renO, roSame, lh, born, AObj.born, AObj.live, injOk, kindOf, rens_ints, okIns_ints, List.range, List.range.loop, mrg, mset, rEncL, rEncM, rEncC_rens, rEncC_okIns, rEncC_inj]
          · simp [ren, rens, sg, sig, okIn, okIns, exK, leK, leF, leV, matK, objM, renO, roSame, lh, born, AObj.born, AObj.live, injOk, kindOf, rens_ints, okIns_ints, List.range, List.range.loop, mrg, mset, rEncL, rEncM, rEncC_rens, rEncC_okIns, rEncC_inj]
          simp only [rEncL, rEncM]
          simp (maxSteps := 2000000) only [↓vP0, vQ0, vT0, simprocAttr, rEncC_rens]
          refine callK_det (c2) [16, 17, 20, 4, 1] ?_ ?_ ?_ rfl (by simp [rEncL, rEncC_rens, rEncC_okIns, rEncC_inj]) ?_
          · simp [ren, rens, sg, sig, okIn, okIns, exK, leK, leF, leV, matK, objM, renO, roSame, lh, born, AObj.born, AObj.live, injOk, kindOf, rens_ints, okIns_ints, List.range, List.range.loop, mrg, mset, rEncL, rEncC_rens, rEncC_okIns, rEncC_inj]
          · simp [ren, rens, sg, sig, okIn, okIns, exK, leK, leF, leV, matK, objM, renO, roSame, lh, born, AObj.born, AObj.live, injOk, kindOf, rens_ints, okIns_ints, List.range, List.range.loop, mrg, mset, rEncL, rEncC_rens, rEncC_okIns, rEncC_inj]
          · simp [ren, rens, sg, sig, okIn, okIns, exK, leK, leF, leV, matK, objM, renO, roSame, lh, born, AObj.born, AObj.live, injOk, kindOf, rens_ints, okIns_ints, List.range, List.range.loop, mrg, mset, rEncL, rEncC_rens, rEncC_okIns, rEncC_inj]
          simp only [rEncL]
          simp (maxSteps := 2000000) only [↓vP0, vQ0, vT0, simprocAttr, rEncC_rens]
          refine callK_det (c3) [13, 14, 15] ?_ ?_ ?_ rfl (by simp [pEncL, pEncM, pEncC_rens, pEncC_okIns, pEncC_inj]) ?_
          · simp [ren, rens, sg, sig, okIn, okIns, exK, leK, leF, leV, matK, objM, renO, roSame, lh, born, AObj.born, AObj.live, injOk, kindOf, rens_ints, okIns_ints, List.range, List.range.loop, mrg, mset, pEncL, pEncM, pEncC_rens, pEncC_okIns, pEncC_inj]
          · simp [ren, rens, sg, sig, okIn, okIns, exK, leK, leF, leV, matK, objM, renO, roSame, lh, born, AObj.born, AObj.live, injOk, kindOf, rens_ints, okIns_ints, List.range, List.range.loop, mrg, mset, pEncL, pEncM, pEncC_rens, pEncC_okIns, pEncC_inj]
          · simp [ren, rens, sg, sig, okIn, okIns, exK, leK, leF, leV, matK, objM, renO, roSame, lh, born, AObj.born, AObj.live, injOk, kindOf, rens_ints, okIns_ints, List.range, List.range.loop, mrg, mset, pEncL, pEncM, pEncC_rens, pEncC_okIns, pEncC_inj]
          simp only [pEncL, pEncM]
          simp (maxSteps := 2000000) only [↓vP0, vQ0, vT0, simprocAttr, pEncC_rens]
          refine callK_det (c4) [13, 14, 22, 4, 1] ?_ ?_ ?_ rfl (by simp [pEncL, pEncC_rens, pEncC_okIns, pEncC_inj]) ?_
          · simp [ren, rens, sg, sig, okIn, okIns, exK, leK, leF, leV, matK, objM, renO, roSame, lh, born, AObj.born, AObj.live, injOk, kindOf, rens_ints, okIns_ints, List.range, List.range.loop, mrg, mset, pEncL, pEncC_rens, pEncC_okIns, pEncC_inj]
          · simp [ren, rens, sg, sig, okIn, okIns, exK, leK, leF, leV, matK, objM, renO, roSame, lh, born, AObj.born, AObj.live, injOk, kindOf, rens_ints, okIns_ints, List.range, List.range.loop, mrg, mset, pEncL, pEncC_rens, pEncC_okIns, pEncC_inj]
          · simp [ren, rens, sg, sig, okIn, okIns, exK, leK, leF, leV, matK, objM, renO, roSame, lh, born, AObj.born, AObj.live, injOk, kindOf, rens_ints, okIns_ints, List.range, List.range.loop, mrg, mset, pEncL, pEncC_rens, pEncC_okIns, pEncC_inj]
          simp only [pEncL]
          simp (maxSteps := 2000000) only [↓vP0, vQ0, vT0, simprocAttr, pEncC_rens]
          refine ⟨2, ⟨by omega, fun j hj => hnext j hT hj⟩, by omega, [9, 10, 11, 12, 13, 14, 23, 16, 17, 21], ?_⟩
          simp only [leR, hE2]
          simp [ren, rens, sg, sig, okIn, okIns, exK, leK, leF, leV, matK, objM, renO, roSame, lh, born, AObj.born, AObj.live, injOk, kindOf, rens_ints, okIns_ints, List.range, List.range.loop, mrg, mset, leF, leV, leK, pEncC_rens, pEncC_okIns, pEncC_inj, rEncC_rens, rEncC_okIns, rEncC_inj, boolsF_rens, boolsF_okIns, hbr, hbo, (show IntKind.i64.wrap 2 = 2 by decide)]
        | false =>
          obtain ⟨p1, p2, p3⟩ := hput 0 (by simp [KdOk])
          have hgo := go 0 (by simp [KdOk]) (by rw [hbit]; rfl)
          have c1 := c_rPut E k1 0 (by omega) 0 (by simp [KdOk]) (by omega)
          have c2 := c_r8Put (E.put 0 0) p1 b t dx dy ty kd ho (l.getD 1 bm0).1 (l.getD 1 bm0).2.1 w' v' (l.getD 1 bm0).2.2 q hbm hr hpx hq hT hr1 (by omega) (by omega) (by omega) _ rfl
          have c3 := c_pPut E k1 0 (by omega) 0 (by simp [KdOk]) (by omega)
          have c4 := c_p8Put (E.put 0 0) p1 b t dx dy ty kd ho (l.getD 1 bm0).1 (l.getD 1 bm0).2.1 w' v' (l.getD 1 bm0).2.2 q hbm hr hpx hq hT hr1 (by omega) (by omega) (by omega) _ rfl
          rw [hgo] at c2 c4
          generalize E.put 0 0 = E1 at c1 c2 c3 c4
          generalize hE2 : encAll (encNew kd (zeros n)) (evU t dx dy ty b w' v' q l bits 2) = E2 at c2 c4
          simp (maxSteps := 2000000) only [↓vP0, vQ0, vT0, simprocAttr, gb, hbit]
          refine callK_det (c1) [16, 17, 18] ?_ ?_ ?_ rfl (by simp [rEncL, rEncM, rEncC_rens, rEncC_okIns, rEncC_inj]) ?_
          · simp [ren, rens, sg, sig, okIn, okIns, exK, leK, leF, leV, matK, objM, renO, roSame, lh, born, AObj.born, AObj.live, injOk, kindOf, rens_ints, okIns_ints, List.range, List.range.loop, mrg, mset, rEncL, rEncM, rEncC_rens, rEncC_okIns, rEncC_inj]
          · simp [ren, rens, sg, sig, okIn, okIns, exK, leK, leF, leV, matK, objM, renO, roSame, lh, born, AObj.born, AObj.live, injOk, kindOf, rens_ints, okIns_ints, List.range, List.range.loop, mrg, mset, rEncL, rEncM, rEncC_rens, rEncC_okIns, rEncC_inj]
          · simp [ren, rens, sg, sig, okIn, okIns, exK, leK, leF, leV, matK, objM, renO, roSame, lh, born, AObj.born, AObj.live, injOk, kindOf, rens_ints, okIns_ints, List.range, List.range.loop, mrg, mset, rEncL, rEncM, rEncC_rens, rEncC_okIns, rEncC_inj]
          simp only [rEncL, rEncM]
          simp (maxSteps := 2000000) only [↓vP0, vQ0, vT0, simprocAttr, rEncC_rens]
          refine callK_det (c2) [16, 17, 20, 4, 1] ?_ ?_ ?_ rfl (by simp [rEncL, rEncC_rens, rEncC_okIns, rEncC_inj]) ?_
          · simp [ren, rens, sg, sig, okIn, okIns, exK, leK, leF, leV, matK, objM, renO, roSame, lh, born, AObj.born, AObj.live, injOk, kindOf, rens_ints, okIns_ints, List.range, List.range.loop, mrg, mset, rEncL, rEncC_rens, rEncC_okIns, rEncC_inj]
          · simp [ren, rens, sg, sig, okIn, okIns, exK, leK, leF, leV, matK, objM, renO, roSame, lh, born, AObj.born, AObj.live, injOk, kindOf, rens_ints, okIns_ints, List.range, List.range.loop, mrg, mset, rEncL, rEncC_rens, rEncC_okIns, rEncC_inj]
          · simp [ren, rens, sg, sig, okIn, okIns, exK, leK, leF, leV, matK, objM, renO, roSame, lh, born, AObj.born, AObj.live, injOk, kindOf, rens_ints, okIns_ints, List.range, List.range.loop, mrg, mset, rEncL, rEncC_rens, rEncC_okIns, rEncC_inj]
          simp only [rEncL]
          simp (maxSteps := 2000000) only [↓vP0, vQ0, vT0, simprocAttr, rEncC_rens]
          refine callK_det (c3) [13, 14, 15] ?_ ?_ ?_ rfl (by simp [pEncL, pEncM, pEncC_rens, pEncC_okIns, pEncC_inj]) ?_
          · simp [ren, rens, sg, sig, okIn, okIns, exK, leK, leF, leV, matK, objM, renO, roSame, lh, born, AObj.born, AObj.live, injOk, kindOf, rens_ints, okIns_ints, List.range, List.range.loop, mrg, mset, pEncL, pEncM, pEncC_rens, pEncC_okIns, pEncC_inj]
          · simp [ren, rens, sg, sig, okIn, okIns, exK, leK, leF, leV, matK, objM, renO, roSame, lh, born, AObj.born, AObj.live, injOk, kindOf, rens_ints, okIns_ints, List.range, List.range.loop, mrg, mset, pEncL, pEncM, pEncC_rens, pEncC_okIns, pEncC_inj]
          · simp [ren, rens, sg, sig, okIn, okIns, exK, leK, leF, leV, matK, objM, renO, roSame, lh, born, AObj.born, AObj.live, injOk, kindOf, rens_ints, okIns_ints, List.range, List.range.loop, mrg, mset, pEncL, pEncM, pEncC_rens, pEncC_okIns, pEncC_inj]
          simp only [pEncL, pEncM]
          simp (maxSteps := 2000000) only [↓vP0, vQ0, vT0, simprocAttr, pEncC_rens]
          refine callK_det (c4) [13, 14, 22, 4, 1] ?_ ?_ ?_ rfl (by simp [pEncL, pEncC_rens, pEncC_okIns, pEncC_inj]) ?_
          · simp [ren, rens, sg, sig, okIn, okIns, exK, leK, leF, leV, matK, objM, renO, roSame, lh, born, AObj.born, AObj.live, injOk, kindOf, rens_ints, okIns_ints, List.range, List.range.loop, mrg, mset, pEncL, pEncC_rens, pEncC_okIns, pEncC_inj]
          · simp [ren, rens, sg, sig, okIn, okIns, exK, leK, leF, leV, matK, objM, renO, roSame, lh, born, AObj.born, AObj.live, injOk, kindOf, rens_ints, okIns_ints, List.range, List.range.loop, mrg, mset, pEncL, pEncC_rens, pEncC_okIns, pEncC_inj]
          · simp [ren, rens, sg, sig, okIn, okIns, exK, leK, leF, leV, matK, objM, renO, roSame, lh, born, AObj.born, AObj.live, injOk, kindOf, rens_ints, okIns_ints, List.range, List.range.loop, mrg, mset, pEncL, pEncC_rens, pEncC_okIns, pEncC_inj]
          simp only [pEncL]
          simp (maxSteps := 2000000) only [↓vP0, vQ0, vT0, simprocAttr, pEncC_rens]
          refine ⟨2, ⟨by omega, fun j hj => hnext j hT hj⟩, by omega, [9, 10, 11, 12, 13, 14, 23, 16, 17, 21], ?_⟩
          simp only [leR, hE2]
          simp [ren, rens, sg, sig, okIn, okIns, exK, leK, leF, leV, matK, objM, renO, roSame, lh, born, AObj.born, AObj.live, injOk, kindOf, rens_ints, okIns_ints, List.range, List.range.loop, mrg, mset, leF, leV, leK, pEncC_rens, pEncC_okIns, pEncC_inj, rEncC_rens, rEncC_okIns, rEncC_inj, boolsF_rens, boolsF_okIns, hbr, hbo, (show IntKind.i64.wrap 2 = 2 by decide)]
    · have g : ((bmsF 3 l).drop 6).take 3 = [.int .i64 (l.getD 2 bm0).1, .int .i64 (l.getD 2 bm0).2.1, .slice 5 0 (l.getD 2 bm0).2.2.length] := bmsF_get 3 l 2 hil
      have gb := boolsF_get bits 2 (by omega)
      have hlen := bmsF_len 3 l
      obtain ⟨hby, hbg⟩ := hlb 2 (by omega)
      generalize encAll (encNew kd (zeros n)) (evU t dx dy ty b w' v' q l bits 2) = E at k1 k2 k3 k4 hst
      simp (maxSteps := 2000000) only [↓vP0, vQ0, vT0, simprocAttr]
      refine chk_intro (by omega) ?_
      simp (maxSteps := 2000000) only [↓vP0, vQ0, vT0, simprocAttr, g]
      refine chk_intro (by omega) ?_
      simp (maxSteps := 2000000) only [↓vP0, vQ0, vT0, simprocAttr, g]
      refine callK_read (c_rIsBitmap (l.getD 2 bm0).1 (l.getD 2 bm0).2.1 (l.getD 2 bm0).2.2 hbg) [5] ?_ ?_ ?_ rfl ?_
      · simp [ren, rens, sg, sig, okIn, okIns, exK, leK, leF, leV, matK, objM, renO, roSame, lh, born, AObj.born, AObj.live, injOk, kindOf, rens_ints, okIns_ints, List.range, List.range.loop, mrg, mset]
      · simp [ren, rens, sg, sig, okIn, okIns, exK, leK, leF, leV, matK, objM, renO, roSame, lh, born, AObj.born, AObj.live, injOk, kindOf, rens_ints, okIns_ints, List.range, List.range.loop, mrg, mset]
      · simp [ren, rens, sg, sig, okIn, okIns, exK, leK, leF, leV, matK, objM, renO, roSame, lh, born, AObj.born, AObj.live, injOk, kindOf, rens_ints, okIns_ints, List.range, List.range.loop, mrg, mset]
      cases hT : bmB (l.getD 2 bm0).1 (l.getD 2 bm0).2.1 (l.getD 2 bm0).2.2 with
      | false =>
        have ha : askErr t dx dy kd (bmB (l.getD 2 bm0).1 (l.getD 2 bm0).2.1 (l.getD 2 bm0).2.2 && bmB w' v' q) b E.st.length = 30 := by rw [askErr, if_neg (not_not_intro ho), hT, Bool.false_and, if_pos rfl]
        have hc := c_p8PutErr E b (by omega) t dx dy hdx hdy ty kd (l.getD 2 bm0).1 (l.getD 2 bm0).2.1 w' v' (l.getD 2 bm0).2.2 q hbg hql (by omega) (by rw [ha]; omega)
        rw [ha] at hc
        simp (maxSteps := 2000000) only [↓vP0, vQ0, vT0, simprocAttr]
        refine callK_read (hc) [13, 14, 15, 5, 1] ?_ ?_ ?_ rfl ?_
        · simp [ren, rens, sg, sig, okIn, okIns, exK, leK, leF, leV, matK, objM, renO, roSame, lh, born, AObj.born, AObj.live, injOk, kindOf, rens_ints, okIns_ints, List.range, List.range.loop, mrg, mset, pEncL, pEncC_rens, pEncC_okIns, pEncC_inj]
        · simp [ren, rens, sg, sig, okIn, okIns, exK, leK, leF, leV, matK, objM, renO, roSame, lh, born, AObj.born, AObj.live, injOk, kindOf, rens_ints, okIns_ints, List.range, List.range.loop, mrg, mset, pEncL, pEncC_rens, pEncC_okIns, pEncC_inj]
        · simp [ren, rens, sg, sig, okIn, okIns, exK, leK, leF, leV, matK, objM, renO, roSame, lh, born, AObj.born, AObj.live, injOk, kindOf, rens_ints, okIns_ints, List.range, List.range.loop, mrg, mset, pEncL, pEncC_rens, pEncC_okIns, pEncC_inj]
        simp (maxSteps := 2000000) only [↓vP0, vQ0, vT0, simprocAttr]
        refine callK_pure (c_Awake) rfl rfl ?_
        simp (maxSteps := 2000000) only [↓vP0, vQ0, vT0, simprocAttr]
        exact exit_keep (L1 := lawL l q bits) ⟨rfl, rfl⟩ trivial hkeep
      | true =>
        obtain ⟨hbm, hpx⟩ := bmB_ok hby hT
        simp (maxSteps := 2000000) only [↓vP0, vQ0, vT0, simprocAttr]
        refine chk_intro (by omega) ?_
        have hput : ∀ z : Int, KdOk z → (E.put 0 z).Ok ∧ (E.put 0 z).st.length = n ∧ (E.put 0 z).out.length ≤ 1000004 := by
          intro z hz
          obtain ⟨p1, p2, p3, p4⟩ := put_ok (c := 0) (bit := z) k1 (by omega) hz
          exact ⟨p1, by rw [p3]; simp [k3], by omega⟩
        have go : ∀ z : Int, KdOk z → bit01 (bits.getD 2 false) = z → encAll ((E.put 0 z)) (mv b (refEv t dx dy ty (l.getD 2 bm0).1 (l.getD 2 bm0).2.1 (l.getD 2 bm0).2.2 w' v' q)) = encAll (encNew kd (zeros n)) (evU t dx dy ty b w' v' q l bits 3) := by
          intro z _ hz; rw [← hz]; exact hst.symm
        have hpl := bmOk_len hbm
        cases hbit : bits.getD 2 false with
        | true =>
          obtain ⟨p1, p2, p3⟩ := hput 1 (by simp [KdOk])
          have hgo := go 1 (by simp [KdOk]) (by rw [hbit]; rfl)
          have c1 := c_rPut E k1 0 (by omega) 1 (by simp [KdOk]) (by omega)
          have c2 := c_r8Put (E.put 0 1) p1 b t dx dy ty kd ho (l.getD 2 bm0).1 (l.getD 2 bm0).2.1 w' v' (l.getD 2 bm0).2.2 q hbm hr hpx hq hT hr1 (by omega) (by omega) (by omega) _ rfl
          have c3 := c_pPut E k1 0 (by omega) 1 (by simp [KdOk]) (by omega)
          have c4 := c_p8Put (E.put 0 1) p1 b t dx dy ty kd ho (l.getD 2 bm0).1 (l.getD 2 bm0).2.1 w' v' (l.getD 2 bm0).2.2 q hbm hr hpx hq hT hr1 (by omega) (by omega) (by omega) _ rfl
          rw [hgo] at c2 c4
          generalize E.put 0 1 = E1 at c1 c2 c3 c4
          generalize hE2 : encAll (encNew kd (zeros n)) (evU t dx dy ty b w' v' q l bits 3) = E2 at c2 c4
          simp (maxSteps := 2000000) only [↓vP0, vQ0, vT0, simprocAttr, gb, hbit]
          refine callK_det (c1) [16, 17, 18] ?_ ?_ ?_ rfl (by simp [rEncL, rEncM, rEncC_rens, rEncC_okIns, rEncC_inj]) ?_
          · simp [ren, rens, sg, sig, okIn, okIns, exK, leK, leF, leV, matK, objM, renO, roSame, lh, born, AObj.born, AObj.live, injOk, kindOf, rens_ints, okIns_ints, List.range, List.range.loop, mrg, mset, rEncL, rEncM, rEncC_rens, rEncC_okIns, rEncC_inj]
          · simp [ren, rens, sg, sig, okIn, okIns, exK, leK, leF, leV, matK, objM, renO, roSame, lh, born, AObj.born, AObj.live, injOk, kindOf, rens_ints, okIns_ints, List.range, List.range.loop, mrg, mset, rEncL, rEncM, rEncC_rens, rEncC_okIns, rEncC_inj]
          · simp [ren, rens, sg, sig, okIn, okIns, exK, leK, leF, leV, matK, objM, renO, roSame, lh, born, AObj.born, AObj.live, injOk, kindOf, rens_ints, okIns_ints, List.range, List.range.loop, mrg, mset, rEncL, rEncM, rEncC_rens, rEncC_okIns, rEncC_inj]
          simp only [rEncL, rEncM]
          simp (maxSteps := 2000000) only [↓vP0, vQ0, vT0, simprocAttr, rEncC_rens]
          refine callK_det (c2) [16, 17, 20, 5, 1] ?_ ?_ ?_ rfl (by simp [rEncL, rEncC_rens, rEncC_okIns, rEncC_inj]) ?_
          · simp [ren, rens, sg, sig, okIn, okIns, exK, leK, leF, leV, matK, objM, renO, roSame, lh, born, AObj.born, AObj.live, injOk, kindOf, rens_ints, okIns_ints, List.range, List.range.loop, mrg, mset, rEncL, rEncC_rens, rEncC_okIns, rEncC_inj]
          · simp [ren, rens, sg, sig, okIn, okIns, exK, leK, leF, leV, matK, objM, renO, roSame, lh, born, AObj.born, AObj.live, injOk, kindOf, rens_ints, okIns_ints, List.range, List.range.loop, mrg, mset, rEncL, rEncC_rens, rEncC_okIns, rEncC_inj]
          · simp [ren, rens, sg, sig, okIn, okIns, exK, leK, leF, leV, matK, objM, renO, roSame, lh, born, AObj.born, AObj.live, injOk, kindOf, rens_ints, okIns_ints, List.range, List.range.loop, mrg, mset, rEncL, rEncC_rens, rEncC_okIns, rEncC_inj]
          simp only [rEncL]
          simp (maxSteps := 2000000) only [↓vP0, vQ0, vT0, simprocAttr, rEncC_rens]
          refine callK_det (c3) [13, 14, 15] ?_ ?_ ?_ rfl (by simp [pEncL, pEncM, pEncC_rens, pEncC_okIns, pEncC_inj]) ?_
          · simp [ren, rens, sg, sig, okIn, okIns, exK, leK, leF, leV, matK, objM, renO, roSame, lh, born, AObj.born, AObj.live, injOk, kindOf, rens_ints, okIns_ints, List.range, List.range.loop, mrg, mset, pEncL, pEncM, pEncC_rens, pEncC_okIns, pEncC_inj]
          · simp [ren, rens, sg, sig, okIn, okIns, exK, leK, leF, leV, matK, objM, renO, roSame, lh, born, AObj.born, AObj.live, injOk, kindOf, rens_ints, okIns_ints, List.range, List.range.loop, mrg, mset, pEncL, pEncM, pEncC_rens, pEncC_okIns, pEncC_inj]
          · simp [ren, rens, sg, sig, okIn, okIns, exK, leK, leF, leV, matK, objM, renO, roSame, lh, born, AObj.born, AObj.live, injOk, kindOf, rens_ints, okIns_ints, List.range, List.range.loop, mrg, mset, pEncL, pEncM, pEncC_rens, pEncC_okIns, pEncC_inj]
          simp only [pEncL, pEncM]
          simp (maxSteps := 2000000) only [↓vP0, vQ0, vT0, simprocAttr, pEncC_rens]
          refine callK_det (c4) [13, 14, 22, 5, 1] ?_ ?_ ?_ rfl (by simp [pEncL, pEncC_rens, pEncC_okIns, pEncC_inj]) ?_
          · simp [ren, rens, sg, sig, okIn, okIns, exK, leK, leF, leV, matK, objM, renO, roSame, lh, born, AObj.born, AObj.live, injOk, kindOf, rens_ints, okIns_ints, List.range, List.range.loop, mrg, mset, pEncL, pEncC_rens, pEncC_okIns, pEncC_inj]
          · simp [ren, rens, sg, sig, okIn, okIns, exK, leK, leF, leV, matK, objM, renO, roSame, lh, born, AObj.born, AObj.live, injOk, kindOf, rens_ints, okIns_ints, List.range, List.range.loop, mrg, mset, pEncL, pEncC_rens, pEncC_okIns, pEncC_inj]
          · simp [ren, rens, sg, sig, okIn, okIns, exK, leK, leF, leV, matK, objM, renO, roSame, lh, born, AObj.born, AObj.live, injOk, kindOf, rens_ints, okIns_ints, List.range, List.range.loop, mrg, mset, pEncL, pEncC_rens, pEncC_okIns, pEncC_inj]
          simp only [pEncL]
          simp (maxSteps := 2000000) only [↓vP0, vQ0, vT0, simprocAttr, pEncC_rens]
          refine ⟨3, ⟨by omega, fun j hj => hnext j hT hj⟩, by omega, [9, 10, 11, 12, 13, 14, 23, 16, 17, 21], ?_⟩
          simp only [leR, hE2]
          simp [ren, rens, sg, sig, okIn, okIns, exK, leK, leF, leV, matK, objM, renO, roSame, lh, born, AObj.born, AObj.live, injOk, kindOf, rens_ints, okIns_ints, List.range, List.range.loop, mrg, mset, leF, leV, leK, pEncC_rens, pEncC_okIns, pEncC_inj, rEncC_rens, rEncC_okIns, rEncC_inj, boolsF_rens, boolsF_okIns, hbr, hbo, (show IntKind.i64.wrap 3 = 3 by decide)]
        | false =>
          obtain ⟨p1, p2, p3⟩ := hput 0 (by simp [KdOk])
          have hgo := go 0 (by simp [KdOk]) (by rw [hbit]; rfl)
          have c1 := c_rPut E k1 0 (by omega) 0 (by simp [KdOk]) (by omega)
          have c2 := c_r8Put (E.put 0 0) p1 b t dx dy ty kd ho (l.getD 2 bm0).1 (l.getD 2 bm0).2.1 w' v' (l.getD 2 bm0).2.2 q hbm hr hpx hq hT hr1 (by omega) (by omega) (by omega) _ rfl
          have c3 := c_pPut E k1 0 (by omega) 0 (by simp [KdOk]) (by omega)
          have c4 := c_p8Put (E.put 0 0) p1 b t dx dy ty kd ho (l.getD 2 bm0).1 (l.getD 2 bm0).2.1 w' v' (l.getD 2 bm0).2.2 q hbm hr hpx hq hT hr1 (by omega) (by omega) (by omega) _ rfl
          rw [hgo] at c2 c4
          generalize E.put 0 0 = E1 at c1 c2 c3 c4
          generalize hE2 : encAll (encNew kd (zeros n)) (evU t dx dy ty b w' v' q l bits 3) = E2 at c2 c4
          simp (maxSteps := 2000000) only [↓vP0, vQ0, vT0, simprocAttr, gb, hbit]
          refine callK_det (c1) [16, 17, 18] ?_ ?_ ?_ rfl (by simp [rEncL, rEncM, rEncC_rens, rEncC_okIns, rEncC_inj]) ?_
          · simp [ren, rens, sg, sig, okIn, okIns, exK, leK, leF, leV, matK, objM, renO, roSame, lh, born, AObj.born, AObj.live, injOk, kindOf, rens_ints, okIns_ints, List.range, List.range.loop, mrg, mset, rEncL, rEncM, rEncC_rens, rEncC_okIns, rEncC_inj]
          · simp [ren, rens, sg, sig, okIn, okIns, exK, leK, leF, leV, matK, objM, renO, roSame, lh, born, AObj.born, AObj.live, injOk, kindOf, rens_ints, okIns_ints, List.range, List.range.loop, mrg, mset, rEncL, rEncM, rEncC_rens, rEncC_okIns, rEncC_inj]
          · simp [ren, rens, sg, sig, okIn, okIns, exK, leK, leF, leV, matK, objM, renO, roSame, lh, born, AObj.born, AObj.live, injOk, kindOf, rens_ints, okIns_ints, List.range, List.range.loop, mrg, mset, rEncL, rEncM, rEncC_rens, rEncC_okIns, rEncC_inj]
          simp only [rEncL, rEncM]
          simp (maxSteps := 2000000) only [↓vP0, vQ0, vT0, simprocAttr, rEncC_rens]
          refine callK_det (c2) [16, 17, 20, 5, 1] ?_ ?_ ?_ rfl (by simp [rEncL, rEncC_rens, rEncC_okIns, rEncC_inj]) ?_
          · simp [ren, rens, sg, sig, okIn, okIns, exK, leK, leF, leV, matK, objM, renO, roSame, lh, born, AObj.born, AObj.live, injOk, kindOf, rens_ints, okIns_ints, List.range, List.range.loop, mrg, mset, rEncL, rEncC_rens, rEncC_okIns, rEncC_inj]
          · simp [ren, rens, sg, sig, okIn, okIns, exK, leK, leF, leV, matK, objM, renO, roSame, lh, born, AObj.born, AObj.live, injOk, kindOf, rens_ints, okIns_ints, List.range, List.range.loop, mrg, mset, rEncL, rEncC_rens, rEncC_okIns, rEncC_inj]
          · simp [ren, rens, sg, sig, okIn, okIns, exK, leK, leF, leV, matK, objM, renO, roSame, lh, born, AObj.born, AObj.live, injOk, kindOf, rens_ints, okIns_ints, List.range, List.range.loop, mrg, mset, rEncL, rEncC_rens, rEncC_okIns, rEncC_inj]
          simp only [rEncL]
          simp (maxSteps := 2000000) only [↓vP0, vQ0, vT0, simprocAttr, rEncC_rens]
          refine callK_det (c3) [13, 14, 15] ?_ ?_ ?_ rfl (by simp [pEncL, pEncM, pEncC_rens, pEncC_okIns, pEncC_inj]) ?_
          · simp [ren, rens, sg, sig, okIn, okIns, exK, leK, leF, leV, matK, objM, renO, roSame, lh, born, AObj.born, AObj.live, injOk, kindOf, rens_ints, okIns_ints, List.range, List.range.loop, mrg, mset, pEncL, pEncM, pEncC_rens, pEncC_okIns, pEncC_inj]
          · simp [ren, rens, sg, sig, okIn, okIns, exK, leK, leF, leV, matK, objM, renO, roSame, lh, born, AObj.born, AObj.live, injOk, kindOf, rens_ints, okIns_ints, List.range, List.range.loop, mrg, mset, pEncL, pEncM, pEncC_rens, pEncC_okIns, pEncC_inj]
          · simp [ren, rens, sg, sig, okIn, okIns, exK, leK, leF, leV, matK, objM, renO, roSame, lh, born, AObj.born, AObj.live, injOk, kindOf, rens_ints, okIns_ints, List.range, List.range.loop, mrg, mset, pEncL, pEncM, pEncC_rens, pEncC_okIns, pEncC_inj]
          simp only [pEncL, pEncM]
          simp (maxSteps := 2000000) only [↓vP0, vQ0, vT0, simprocAttr, pEncC_rens]
          refine callK_det (c4) [13, 14, 22, 5, 1] ?_ ?_ ?_ rfl (by simp [pEncL, pEncC_rens, pEncC_okIns, pEncC_inj]) ?_
          · simp [ren, rens, sg, sig, okIn, okIns, exK, leK, leF, leV, matK, objM, renO, roSame, lh, born, AObj.born, AObj.live, injOk, kindOf, rens_ints, okIns_ints, List.range, List.range.loop, mrg, mset, pEncL, pEncC_rens, pEncC_okIns, pEncC_inj]
          · simp [ren, rens, sg, sig, okIn, okIns, exK, leK, leF, leV, matK, objM, renO, roSame, lh, born, AObj.born, AObj.live, injOk, kindOf, rens_ints, okIns_ints, List.range, List.range.loop, mrg, mset, pEncL, pEncC_rens, pEncC_okIns, pEncC_inj]
          · simp [ren, rens, sg, sig, okIn, okIns, exK, leK, leF, leV, matK, objM, renO, roSame, lh, born, AObj.born, AObj.live, injOk, kindOf, rens_ints, okIns_ints, List.range, List.range.loop, mrg, mset, pEncL, pEncC_rens, pEncC_okIns, pEncC_inj]
          simp only [pEncL]
          simp (maxSteps := 2000000) only [↓vP0, vQ0, vT0, simprocAttr, pEncC_rens]
          refine ⟨3, ⟨by omega, fun j hj => hnext j hT hj⟩, by omega, [9, 10, 11, 12, 13, 14, 23, 16, 17, 21], ?_⟩
          simp only [leR, hE2]
          simp [ren, rens, sg, sig, okIn, okIns, exK, leK, leF, leV, matK, objM, renO, roSame, lh, born, AObj.born, AObj.live, injOk, kindOf, rens_ints, okIns_ints, List.range, List.range.loop, mrg, mset, leF, leV, leK, pEncC_rens, pEncC_okIns, pEncC_inj, rEncC_rens, rEncC_okIns, rEncC_inj, boolsF_rens, boolsF_okIns, hbr, hbo, (show IntKind.i64.wrap 3 = 3 by decide)]
    · have g : ((bmsF 3 l).drop 9).take 3 = [.int .i64 (l.getD 3 bm0).1, .int .i64 (l.getD 3 bm0).2.1, .slice 6 0 (l.getD 3 bm0).2.2.length] := bmsF_get 3 l 3 hil
      have gb := boolsF_get bits 3 (by omega)
      have hlen := bmsF_len 3 l
      obtain ⟨hby, hbg⟩ := hlb 3 (by omega)
      generalize encAll (encNew kd (zeros n)) (evU t dx dy ty b w' v' q l bits 3) = E at k1 k2 k3 k4 hst
      simp (maxSteps := 2000000) only [↓vP0, vQ0, vT0, simprocAttr]
      refine chk_intro (by omega) ?_
      simp (maxSteps := 2000000) only [↓vP0, vQ0, vT0, simprocAttr, g]
      refine chk_intro (by omega) ?_
      simp (maxSteps := 2000000) only [↓vP0, vQ0, vT0, simprocAttr, g]
      refine callK_read (c_rIsBitmap (l.getD 3 bm0).1 (l.getD 3 bm0).2.1 (l.getD 3 bm0).2.2 hbg) [6] ?_ ?_ ?_ rfl ?_
      · simp [ren, rens, sg, sig, okIn, okIns, exK, leK, leF, leV, matK, objM, renO, roSame, lh, born, AObj.born, AObj.live, injOk, kindOf, rens_ints, okIns_ints, List.range, List.range.loop, mrg, mset]
      · simp [ren, rens, sg, sig, okIn, okIns, exK, leK, leF, leV, matK, objM, renO, roSame, lh, born, AObj.born, AObj.live, injOk, kindOf, rens_ints, okIns_ints, List.range, List.range.loop, mrg, mset]
      · simp [ren, rens, sg, sig, okIn, okIns, exK, leK, leF, leV, matK, objM, renO, roSame, lh, born, AObj.born, AObj.live, injOk, kindOf, rens_ints, okIns_ints, List.range, List.range.loop, mrg, mset]
      cases hT : bmB (l.getD 3 bm0).1 (l.getD 3 bm0).2.1 (l.getD 3 bm0).2.2 with
      | false =>
        have ha : askErr t dx dy kd (bmB (l.getD 3 bm0).1 (l.getD 3 bm0).2.1 (l.getD 3 bm0).2.2 && bmB w' v' q) b E.st.length = 30 := by rw [askErr, if_neg (not_not_intro ho), hT, Bool.false_and, if_pos rfl]
        have hc := c_p8PutErr E b (by omega) t dx dy hdx hdy ty kd (l.getD 3 bm0).1 (l.getD 3 bm0).2.1 w' v' (l.getD 3 bm0).2.2 q hbg hql (by omega) (by rw [ha]; omega)
        rw [ha] at hc
        simp (maxSteps := 2000000) only [↓vP0, vQ0, vT0, simprocAttr]
        refine callK_read (hc) [13, 14, 15, 6, 1] ?_ ?_ ?_ rfl ?_
        · simp [ren, rens, sg, sig, okIn, okIns, exK, leK, leF, leV, matK, objM, renO, roSame, lh, born, AObj.born, AObj.live, injOk, kindOf, rens_ints, okIns_ints, List.range, List.range.loop, mrg, mset, pEncL, pEncC_rens, pEncC_okIns, pEncC_inj]
        · simp [ren, rens, sg, sig, okIn, okIns, exK, leK, leF, leV, matK, objM, renO, roSame, lh, born, AObj.born, AObj.live, injOk, kindOf, rens_ints, okIns_ints, List.range, List.range.loop, mrg, mset, pEncL, pEncC_rens, pEncC_okIns, pEncC_inj]
        · simp [ren, rens, sg, sig, okIn, okIns, exK, leK, leF, leV, matK, objM, renO, roSame, lh, born, AObj.born, AObj.live, injOk, kindOf, rens_ints, okIns_ints, List.range, List.range.loop, mrg, mset, pEncL, pEncC_rens, pEncC_okIns, pEncC_inj]
        simp (maxSteps := 2000000) only [↓vP0, vQ0, vT0, simprocAttr]
        refine callK_pure (c_Awake) rfl rfl ?_
        simp (maxSteps := 2000000) only [↓vP0, vQ0, vT0, simprocAttr]
        exact exit_keep (L1 := lawL l q bits) ⟨rfl, rfl⟩ trivial hkeep
      | true =>
        obtain ⟨hbm, hpx⟩ := bmB_ok hby hT
        simp (maxSteps := 2000000) only [↓vP0, vQ0, vT0, simprocAttr]
        refine chk_intro (by omega) ?_
        have hput : ∀ z : Int, KdOk z → (E.put 0 z).Ok ∧ (E.put 0 z).st.length = n ∧ (E.put 0 z).out.length ≤ 1000004 := by
          intro z hz
          obtain ⟨p1, p2, p3, p4⟩ := put_ok (c := 0) (bit := z) k1 (by omega) hz
          exact ⟨p1, by rw [p3]; simp [k3], by omega⟩
        have go : ∀ z : Int, KdOk z → bit01 (bits.getD 3 false) = z → encAll ((E.put 0 z)) (mv b (refEv t dx dy ty (l.getD 3 bm0).1 (l.getD 3 bm0).2.1 (l.getD 3 bm0).2.2 w' v' q)) = encAll (encNew kd (zeros n)) (evU t dx dy ty b w' v' q l bits 4) := by
          intro z _ hz; rw [← hz]; exact hst.symm
        have hpl := bmOk_len hbm
        cases hbit : bits.getD 3 false with
        | true =>
          obtain ⟨p1, p2, p3⟩ := hput 1 (by simp [KdOk])
          have hgo := go 1 (by simp [KdOk]) (by rw [hbit]; rfl)
          have c1 := c_rPut E k1 0 (by omega) 1 (by simp [KdOk]) (by omega)
          have c2 := c_r8Put (E.put 0 1) p1 b t dx dy ty kd ho (l.getD 3 bm0).1 (l.getD 3 bm0).2.1 w' v' (l.getD 3 bm0).2.2 q hbm hr hpx hq hT hr1 (by omega) (by omega) (by omega) _ rfl
          have c3 := c_pPut E k1 0 (by omega) 1 (by simp [KdOk]) (by omega)
          have c4 := c_p8Put (E.put 0 1) p1 b t dx dy ty kd ho (l.getD 3 bm0).1 (l.getD 3 bm0).2.1 w' v' (l.getD 3 bm0).2.2 q hbm hr hpx hq hT hr1 (by omega) (by omega) (by omega) _ rfl
          rw [hgo] at c2 c4
          generalize E.put 0 1 = E1 at c1 c2 c3 c4
          generalize hE2 : encAll (encNew kd (zeros n)) (evU t dx dy ty b w' v' q l bits 4) = E2 at c2 c4
          simp (maxSteps := 2000000) only [↓vP0, vQ0, vT0, simprocAttr, gb, hbit]
          refine callK_det (c1) [16, 17, 18] ?_ ?_ ?_ rfl (by simp [rEncL, rEncM, rEncC_rens, rEncC_okIns, rEncC_inj]) ?_
          · simp [ren, rens, sg, sig, okIn, okIns, exK, leK, leF, leV, matK, objM, renO, roSame, lh, born, AObj.born, AObj.live, injOk, kindOf, rens_ints, okIns_ints, List.range, List.range.loop, mrg, mset, rEncL, rEncM, rEncC_rens, rEncC_okIns, rEncC_inj]
          · simp [ren, rens, sg, sig, okIn, okIns, exK, leK, leF, leV, matK, objM, renO, roSame, lh, born, AObj.born, AObj.live, injOk, kindOf, rens_ints, okIns_ints, List.range, List.range.loop, mrg, mset, rEncL, rEncM, rEncC_rens, rEncC_okIns, rEncC_inj]
          · simp [ren, rens, sg, sig, okIn, okIns, exK, leK, leF, leV, matK, objM, renO, roSame, lh, born, AObj.born, AObj.live, injOk, kindOf, rens_ints, okIns_ints, List.range, List.range.loop, mrg, mset, rEncL, rEncM, rEncC_rens, rEncC_okIns, rEncC_inj]
          simp only [rEncL, rEncM]
          simp (maxSteps := 2000000) only [↓vP0, vQ0, vT0, simprocAttr, rEncC_rens]
          refine callK_det (c2) [16, 17, 20, 6, 1] ?_ ?_ ?_ rfl (by simp [rEncL, rEncC_rens, rEncC_okIns, rEncC_inj]) ?_
          · simp [ren, rens, sg, sig, okIn, okIns, exK, leK, leF, leV, matK, objM, renO, roSame, lh, born, AObj.born, AObj.live, injOk, kindOf, rens_ints, okIns_ints, List.range, List.range.loop, mrg, mset, rEncL, rEncC_rens, rEncC_okIns, rEncC_inj]
          · simp [ren, rens, sg, sig, okIn, okIns, exK, leK, leF, leV, matK, objM, renO, roSame, lh, born, AObj.born, AObj.live, injOk, kindOf, rens_ints, okIns_ints, List.range, List.range.loop, mrg, mset, rEncL, rEncC_rens, rEncC_okIns, rEncC_inj]
          · simp [ren, rens, sg, sig, okIn, okIns, exK, leK, leF, leV, matK, objM, renO, roSame, lh, born, AObj.born, AObj.live, injOk, kindOf, rens_ints, okIns_ints, List.range, List.range.loop, mrg, mset, rEncL, rEncC_rens, rEncC_okIns, rEncC_inj]
          simp only [rEncL]
          simp (maxSteps := 2000000) only [↓vP0, vQ0, vT0, simprocAttr, rEncC_rens]
          refine callK_det (c3) [13, 14, 15] ?_ ?_ ?_ rfl (by simp [pEncL, pEncM, pEncC_rens, pEncC_okIns, pEncC_inj]) ?_
          · simp [ren, rens, sg, sig, okIn, okIns, exK, leK, leF, leV, matK, objM, renO, roSame, lh, born, AObj.born, AObj.live, injOk, kindOf, rens_ints, okIns_ints, List.range, List.range.loop, mrg, mset, pEncL, pEncM, pEncC_rens, pEncC_okIns, pEncC_inj]
          · simp [ren, rens, sg, sig, okIn, okIns, exK, leK, leF, leV, matK, objM, renO, roSame, lh, born, AObj.born, AObj.live, injOk, kindOf, rens_ints, okIns_ints, List.range, List.range.loop, mrg, mset, pEncL, pEncM, pEncC_rens, pEncC_okIns, pEncC_inj]
          · simp [ren, rens, sg, sig, okIn, okIns, exK, leK, leF, leV, matK, objM, renO, roSame, lh, born, AObj.born, AObj.live, injOk, kindOf, rens_ints, okIns_ints, List.range, List.range.loop, mrg, mset, pEncL, pEncM, pEncC_rens, pEncC_okIns, pEncC_inj]
          simp only [pEncL, pEncM]
          simp (maxSteps := 2000000) only [↓vP0, vQ0, vT0, simprocAttr, pEncC_rens]
          refine callK_det (c4) [13, 14, 22, 6, 1] ?_ ?_ ?_ rfl (by simp [pEncL, pEncC_rens, pEncC_okIns, pEncC_inj]) ?_
          · simp [ren, rens, sg, sig, okIn, okIns, exK, leK, leF, leV, matK, objM, renO, roSame, lh, born, AObj.born, AObj.live, injOk, kindOf, rens_ints, okIns_ints, List.range, List.range.loop, mrg, mset, pEncL, pEncC_rens, pEncC_okIns, pEncC_inj]
          · simp [ren, rens, sg, sig, okIn, okIns, exK, leK, leF, leV, matK, objM, renO, roSame, lh, born, AObj.born, AObj.live, injOk, kindOf, rens_ints, okIns_ints, List.range, List.range.loop, mrg, mset, pEncL, pEncC_rens, pEncC_okIns, pEncC_inj]
          · simp [ren, rens, sg, sig, okIn, okIns, exK, leK, leF, leV, matK, objM, renO, roSame, lh, born, AObj.born, AObj.live, injOk, kindOf, rens_ints, okIns_ints, List.range, List.range.loop, mrg, mset, pEncL, pEncC_rens, pEncC_okIns, pEncC_inj]
          simp only [pEncL]
          simp (maxSteps := 2000000) only [↓vP0, vQ0, vT0, simprocAttr, pEncC_rens]
          refine ⟨4, ⟨by omega, fun j hj => hnext j hT hj⟩, by omega, [9, 10, 11, 12, 13, 14, 23, 16, 17, 21], ?_⟩
          simp only [leR, hE2]
          simp [ren, rens, sg, sig, okIn, okIns, exK, leK, leF, leV, matK, objM, renO, roSame, lh, born, AObj.born, AObj.live, injOk, kindOf, rens_ints, okIns_ints, List.range, List.range.loop, mrg, mset, leF, leV, leK, pEncC_rens, pEncC_okIns, pEncC_inj, rEncC_rens, rEncC_okIns, rEncC_inj, boolsF_rens, boolsF_okIns, hbr, hbo, (show IntKind.i64.wrap 4 = 4 by decide)]
        | false =>
          obtain ⟨p1, p2, p3⟩ := hput 0 (by simp [KdOk])
          have hgo := go 0 (by simp [KdOk]) (by rw [hbit]; rfl)
          have c1 := c_rPut E k1 0 (by omega) 0 (by simp [KdOk]) (by omega)
          have c2 := c_r8Put (E.put 0 0) p1 b t dx dy ty kd ho (l.getD 3 bm0).1 (l.getD 3 bm0).2.1 w' v' (l.getD 3 bm0).2.2 q hbm hr hpx hq hT hr1 (by omega) (by omega) (by omega) _ rfl
          have c3 := c_pPut E k1 0 (by omega) 0 (by simp [KdOk]) (by omega)
          have c4 := c_p8Put (E.put 0 0) p1 b t dx dy ty kd ho (l.getD 3 bm0).1 (l.getD 3 bm0).2.1 w' v' (l.getD 3 bm0).2.2 q hbm hr hpx hq hT hr1 (by omega) (by omega) (by omega) _ rfl
          rw [hgo] at c2 c4
          generalize E.put 0 0 = E1 at c1 c2 c3 c4
          generalize hE2 : encAll (encNew kd (zeros n)) (evU t dx dy ty b w' v' q l bits 4) = E2 at c2 c4
          simp (maxSteps := 2000000) only [↓vP0, vQ0, vT0, simprocAttr, gb, hbit]
          refine callK_det (c1) [16, 17, 18] ?_ ?_ ?_ rfl (by simp [rEncL, rEncM, rEncC_rens, rEncC_okIns, rEncC_inj]) ?_
          · simp [ren, rens, sg, sig, okIn, okIns, exK, leK, leF, leV, matK, objM, renO, roSame, lh, born, AObj.born, AObj.live, injOk, kindOf, rens_ints, okIns_ints, List.range, List.range.loop, mrg, mset, rEncL, rEncM, rEncC_rens, rEncC_okIns, rEncC_inj]
          · simp [ren, rens, sg, sig, okIn, okIns, exK, leK, leF, leV, matK, objM, renO, roSame, lh, born, AObj.born, AObj.live, injOk, kindOf, rens_ints, okIns_ints, List.range, List.range.loop, mrg, mset, rEncL, rEncM, rEncC_rens, rEncC_okIns, rEncC_inj]
          · simp [ren, rens, sg, sig, okIn, okIns, exK, leK, leF, leV, matK, objM, renO, roSame, lh, born, AObj.born, AObj.live, injOk, kindOf, rens_ints, okIns_ints, List.range, List.range.loop, mrg, mset, rEncL, rEncM, rEncC_rens, rEncC_okIns, rEncC_inj]
          simp only [rEncL, rEncM]
          simp (maxSteps := 2000000) only [↓vP0, vQ0, vT0, simprocAttr, rEncC_rens]
          refine callK_det (c2) [16, 17, 20, 6, 1] ?_ ?_ ?_ rfl (by simp [rEncL, rEncC_rens, rEncC_okIns, rEncC_inj]) ?_
          · simp [ren, rens, sg, sig, okIn, okIns, exK, leK, leF, leV, matK, objM, renO, roSame, lh, born, AObj.born, AObj.live, injOk, kindOf, rens_ints, okIns_ints, List.range, List.range.loop, mrg, mset, rEncL, rEncC_rens, rEncC_okIns, rEncC_inj]
          · simp [ren, rens, sg, sig, okIn, okIns, exK, leK, leF, leV, matK, objM, renO, roSame, lh, born, AObj.born, AObj.live, injOk, kindOf, rens_ints, okIns_ints, List.range, List.range.loop, mrg, mset, rEncL, rEncC_rens, rEncC_okIns, rEncC_inj]
          · simp [ren, rens, sg, sig, okIn, okIns, exK, leK, leF, leV, matK, objM, renO, roSame, lh, born, AObj.born, AObj.live, injOk, kindOf, rens_ints, okIns_ints, List.range, List.range.loop, mrg, mset, rEncL, rEncC_rens, rEncC_okIns, rEncC_inj]
          simp only [rEncL]
          simp (maxSteps := 2000000) only [↓vP0, vQ0, vT0, simprocAttr, rEncC_rens]
          refine callK_det (c3) [13, 14, 15] ?_ ?_ ?_ rfl (by simp [pEncL, pEncM, pEncC_rens, pEncC_okIns, pEncC_inj]) ?_
          · simp [ren, rens, sg, sig, okIn, okIns, exK, leK, leF, leV, matK, objM, renO, roSame, lh, born, AObj.born, AObj.live, injOk, kindOf, rens_ints, okIns_ints, List.range, List.range.loop, mrg, mset, pEncL, pEncM, pEncC_rens, pEncC_okIns, pEncC_inj]
          · simp [ren, rens, sg, sig, okIn, okIns, exK, leK, leF, leV, matK, objM, renO, roSame, lh, born, AObj.born, AObj.live, injOk, kindOf, rens_ints, okIns_ints, List.range, List.range.loop, mrg, mset, pEncL, pEncM, pEncC_rens, pEncC_okIns, pEncC_inj]
          · simp [ren, rens, sg, sig, okIn, okIns, exK, leK, leF, leV, matK, objM, renO, roSame, lh, born, AObj.born, AObj.live, injOk, kindOf, rens_ints, okIns_ints, List.range, List.range.loop, mrg, mset, pEncL, pEncM, pEncC_rens, pEncC_okIns, pEncC_inj]
          simp only [pEncL, pEncM]
          simp (maxSteps := 2000000) only [↓vP0, vQ0, vT0, simprocAttr, pEncC_rens]
          refine callK_det (c4) [13, 14, 22, 6, 1] ?_ ?_ ?_ rfl (by simp [pEncL, pEncC_rens, pEncC_okIns, pEncC_inj]) ?_
          · simp [ren, rens, sg, sig, okIn, okIns, exK, leK, leF, leV, matK, objM, renO, roSame, lh, born, AObj.born, AObj.live, injOk, kindOf, rens_ints, okIns_ints, List.range, List.range.loop, mrg, mset, pEncL, pEncC_rens, pEncC_okIns, pEncC_inj]
          · simp [ren, rens, sg, sig, okIn, okIns, exK, leK, leF, leV, matK, objM, renO, roSame, lh, born, AObj.born, AObj.live, injOk, kindOf, rens_ints, okIns_ints, List.range, List.range.loop, mrg, mset, pEncL, pEncC_rens, pEncC_okIns, pEncC_inj]
          · simp [ren, rens, sg, sig, okIn, okIns, exK, leK, leF, leV, matK, objM, renO, roSame, lh, born, AObj.born, AObj.live, injOk, kindOf, rens_ints, okIns_ints, List.range, List.range.loop, mrg, mset, pEncL, pEncC_rens, pEncC_okIns, pEncC_inj]
          simp only [pEncL]
          simp (maxSteps := 2000000) only [↓vP0, vQ0, vT0, simprocAttr, pEncC_rens]
          refine ⟨4, ⟨by omega, fun j hj => hnext j hT hj⟩, by omega, [9, 10, 11, 12, 13, 14, 23, 16, 17, 21], ?_⟩
          simp only [leR, hE2]
          simp [ren, rens, sg, sig, okIn, okIns, exK, leK, leF, leV, matK, objM, renO, roSame, lh, born, AObj.born, AObj.live, injOk, kindOf, rens_ints, okIns_ints, List.range, List.range.loop, mrg, mset, leF, leV, leK, pEncC_rens, pEncC_okIns, pEncC_inj, rEncC_rens, rEncC_okIns, rEncC_inj, boolsF_rens, boolsF_okIns, hbr, hbo, (show IntKind.i64.wrap 4 = 4 by decide)]
    · have g : ((bmsF 3 l).drop 12).take 3 = [.int .i64 (l.getD 4 bm0).1, .int .i64 (l.getD 4 bm0).2.1, .slice 7 0 (l.getD 4 bm0).2.2.length] := bmsF_get 3 l 4 hil
      have gb := boolsF_get bits 4 (by omega)
      have hlen := bmsF_len 3 l
      obtain ⟨hby, hbg⟩ := hlb 4 (by omega)
      generalize encAll (encNew kd (zeros n)) (evU t dx dy ty b w' v' q l bits 4) = E at k1 k2 k3 k4 hst
      simp (maxSteps := 2000000) only [↓vP0, vQ0, vT0, simprocAttr]
      refine chk_intro (by omega) ?_
      simp (maxSteps := 2000000) only [↓vP0, vQ0, vT0, simprocAttr, g]
      refine chk_intro (by omega) ?_
      simp (maxSteps := 2000000) only [↓vP0, vQ0, vT0, simprocAttr, g]
      refine callK_read (c_rIsBitmap (l.getD 4 bm0).1 (l.getD 4 bm0).2.1 (l.getD 4 bm0).2.2 hbg) [7] ?_ ?_ ?_ rfl ?_
      · simp [ren, rens, sg, sig, okIn, okIns, exK, leK, leF, leV, matK, objM, renO, roSame, lh, born, AObj.born, AObj.live, injOk, kindOf, rens_ints, okIns_ints, List.range, List.range.loop, mrg, mset]
      · simp [ren, rens, sg, sig, okIn, okIns, exK, leK, leF, leV, matK, objM, renO, roSame, lh, born, AObj.born, AObj.live, injOk, kindOf, rens_ints, okIns_ints, List.range, List.range.loop, mrg, mset]
      · simp [ren, rens, sg, sig, okIn, okIns, exK, leK, leF, leV, matK, objM, renO, roSame, lh, born, AObj.born, AObj.live, injOk, kindOf, rens_ints, okIns_ints, List.range, List.range.loop, mrg, mset]
      cases hT : bmB (l.getD 4 bm0).1 (l.getD 4 bm0).2.1 (l.getD 4 bm0).2.2 with
      | false =>
        have ha : askErr t dx dy kd (bmB (l.getD 4 bm0).1 (l.getD 4 bm0).2.1 (l.getD 4 bm0).2.2 && bmB w' v' q) b E.st.length = 30 := by rw [askErr, if_neg (not_not_intro ho), hT, Bool.false_and, if_pos rfl]
        have hc := c_p8PutErr E b (by omega) t dx dy hdx hdy ty kd (l.getD 4 bm0).1 (l.getD 4 bm0).2.1 w' v' (l.getD 4 bm0).2.2 q hbg hql (by omega) (by rw [ha]; omega)
        rw [ha] at hc
        simp (maxSteps := 2000000) only [↓vP0, vQ0, vT0, simprocAttr]
        refine callK_read (hc) [13, 14, 15, 7, 1] ?_ ?_ ?_ rfl ?_
        · simp [ren, rens, sg, sig, okIn, okIns, exK, leK, leF, leV, matK, objM, renO, roSame, lh, born, AObj.born, AObj.live, injOk, kindOf, rens_ints, okIns_ints, List.range, List.range.loop, mrg, mset, pEncL, pEncC_rens, pEncC_okIns, pEncC_inj]
        · simp [ren, rens, sg, sig, okIn, okIns, exK, leK, leF, leV, matK, objM, renO, roSame, lh, born, AObj.born, AObj.live, injOk, kindOf, rens_ints, okIns_ints, List.range, List.range.loop, mrg, mset, pEncL, pEncC_rens, pEncC_okIns, pEncC_inj]
        · simp [ren, rens, sg, sig, okIn, okIns, exK, leK, leF, leV, matK, objM, renO, roSame, lh, born, AObj.born, AObj.live, injOk, kindOf, rens_ints, okIns_ints, List.range, List.range.loop, mrg, mset, pEncL, pEncC_rens, pEncC_okIns, pEncC_inj]
        simp (maxSteps := 2000000) only [↓vP0, vQ0, vT0, simprocAttr]
        refine callK_pure (c_Awake) rfl rfl ?_
        simp (maxSteps := 2000000) only [↓vP0, vQ0, vT0, simprocAttr]
        exact exit_keep (L1 := lawL l q bits) ⟨rfl, rfl⟩ trivial hkeep
      | true =>
        obtain ⟨hbm, hpx⟩ := bmB_ok hby hT
        simp (maxSteps := 2000000) only [↓vP0, vQ0, vT0, simprocAttr]
        refine chk_intro (by omega) ?_
        have hput : ∀ z : Int, KdOk z → (E.put 0 z).Ok ∧ (E.put 0 z).st.length = n ∧ (E.put 0 z).out.length ≤ 1000004 := by
          intro z hz
          obtain ⟨p1, p2, p3, p4⟩ := put_ok (c := 0) (bit := z) k1 (by omega) hz
          exact ⟨p1, by rw [p3]; simp [k3], by omega⟩
        have go : ∀ z : Int, KdOk z → bit01 (bits.getD 4 false) = z → encAll ((E.put 0 z)) (mv b (refEv t dx dy ty (l.getD 4 bm0).1 (l.getD 4 bm0).2.1 (l.getD 4 bm0).2.2 w' v' q)) = encAll (encNew kd (zeros n)) (evU t dx dy ty b w' v' q l bits 5) := by
          intro z _ hz; rw [← hz]; exact hst.symm
        have hpl := bmOk_len hbm
        cases hbit : bits.getD 4 false with
        | true =>
          obtain ⟨p1, p2, p3⟩ := hput 1 (by simp [KdOk])
          have hgo := go 1 (by simp [KdOk]) (by rw [hbit]; rfl)
          have c1 := c_rPut E k1 0 (by omega) 1 (by simp [KdOk]) (by omega)
          have c2 := c_r8Put (E.put 0 1) p1 b t dx dy ty kd ho (l.getD 4 bm0).1 (l.getD 4 bm0).2.1 w' v' (l.getD 4 bm0).2.2 q hbm hr hpx hq hT hr1 (by omega) (by omega) (by omega) _ rfl
          have c3 := c_pPut E k1 0 (by omega) 1 (by simp [KdOk]) (by omega)
          have c4 := c_p8Put (E.put 0 1) p1 b t dx dy ty kd ho (l.getD 4 bm0).1 (l.getD 4 bm0).2.1 w' v' (l.getD 4 bm0).2.2 q hbm hr hpx hq hT hr1 (by omega) (by omega) (by omega) _ rfl
          rw [hgo] at c2 c4
          generalize E.put 0 1 = E1 at c1 c2 c3 c4
          generalize hE2 : encAll (encNew kd (zeros n)) (evU t dx dy ty b w' v' q l bits 5) = E2 at c2 c4
          simp (maxSteps := 2000000) only [↓vP0, vQ0, vT0, simprocAttr, gb, hbit]
          refine callK_det (c1) [16, 17, 18] ?_ ?_ ?_ rfl (by simp [rEncL, rEncM, rEncC_rens, rEncC_okIns, rEncC_inj]) ?_
          · simp [ren, rens, sg, sig, okIn, okIns, exK, leK, leF, leV, matK, objM, renO, roSame, lh, born, AObj.born, AObj.live, injOk, kindOf, rens_ints, okIns_ints, List.range, List.range.loop, mrg, mset, rEncL, rEncM, rEncC_rens, rEncC_okIns, rEncC_inj]
          · simp [ren, rens, sg, sig, okIn, okIns, exK, leK, leF, leV, matK, objM, renO, roSame, lh, born, AObj.born, AObj.live, injOk, kindOf, rens_ints, okIns_ints, List.range, List.range.loop, mrg, mset, rEncL, rEncM, rEncC_rens, rEncC_okIns, rEncC_inj]
          · simp [ren, rens, sg, sig, okIn, okIns, exK, leK, leF, leV, matK, objM, renO, roSame, lh, born, AObj.born, AObj.live, injOk, kindOf, rens_ints, okIns_ints, List.range, List.range.loop, mrg, mset, rEncL, rEncM, rEncC_rens, rEncC_okIns, rEncC_inj]
          simp only [rEncL, rEncM]
          simp (maxSteps := 2000000) only [↓vP0, vQ0, vT0, simprocAttr, rEncC_rens]
          refine callK_det (c2) [16, 17, 20, 7, 1] ?_ ?_ ?_ rfl (by simp [rEncL, rEncC_rens, rEncC_okIns, rEncC_inj]) ?_
          · simp [ren, rens, sg, sig, okIn, okIns, exK, leK, leF, leV, matK, objM, renO, roSame, lh, born, AObj.born, AObj.live, injOk, kindOf, rens_ints, okIns_ints, List.range, List.range.loop, mrg, mset, rEncL, rEncC_rens, rEncC_okIns, rEncC_inj]
          · simp [ren, rens, sg, sig, okIn, okIns, exK, leK, leF, leV, matK, objM, renO, roSame, lh, born, AObj.born, AObj.live, injOk, kindOf, rens_ints, okIns_ints, List.range, List.range.loop, mrg, mset, rEncL, rEncC_rens, rEncC_okIns, rEncC_inj]
          · simp [ren, rens, sg, sig, okIn, okIns, exK, leK, leF, leV, matK, objM, renO, roSame, lh, born, AObj.born, AObj.live, injOk, kindOf, rens_ints, okIns_ints, List.range, List.range.loop, mrg, mset, rEncL, rEncC_rens, rEncC_okIns, rEncC_inj]
          simp only [rEncL]
          simp (maxSteps := 2000000) only [↓vP0, vQ0, vT0, simprocAttr, rEncC_rens]
          refine callK_det (c3) [13, 14, 15] ?_ ?_ ?_ rfl (by simp [pEncL, pEncM, pEncC_rens, pEncC_okIns, pEncC_inj]) ?_
          · simp [ren, rens, sg, sig, okIn, okIns, exK, leK, leF, leV, matK, objM, renO, roSame, lh, born, AObj.born, AObj.live, injOk, kindOf, rens_ints, okIns_ints, List.range, List.range.loop, mrg, mset, pEncL, pEncM, pEncC_rens, pEncC_okIns, pEncC_inj]
          · simp [ren, rens, sg, sig, okIn, okIns, exK, leK, leF, leV, matK, objM, renO, roSame, lh, born, AObj.born, AObj.live, injOk, kindOf, rens_ints, okIns_ints, List.range, List.range.loop, mrg, mset, pEncL, pEncM, pEncC_rens, pEncC_okIns, pEncC_inj]
          · simp [ren, rens, sg, sig, okIn, okIns, exK, leK, leF, leV, matK, objM, renO, roSame, lh, born, AObj.born, AObj.live, injOk, kindOf, rens_ints, okIns_ints, List.range, List.range.loop, mrg, mset, pEncL, pEncM, pEncC_rens, pEncC_okIns, pEncC_inj]
          simp only [pEncL, pEncM]
          simp (maxSteps := 2000000) only [↓vP0, vQ0, vT0, simprocAttr, pEncC_rens]
          refine callK_det (c4) [13, 14, 22, 7, 1] ?_ ?_ ?_ rfl (by simp [pEncL, pEncC_rens, pEncC_okIns, pEncC_inj]) ?_
          · simp [ren, rens, sg, sig, okIn, okIns, exK, leK, leF, leV, matK, objM, renO, roSame, lh, born, AObj.born, AObj.live, injOk, kindOf, rens_ints, okIns_ints, List.range, List.range.loop, mrg, mset, pEncL, pEncC_rens, pEncC_okIns, pEncC_inj]
          · simp [ren, rens, sg, sig, okIn, okIns, exK, leK, leF, leV, matK, objM, renO, roSame, lh, born, AObj.born, AObj.live, injOk, kindOf, rens_ints, okIns_ints, List.range, List.range.loop, mrg, mset, pEncL, pEncC_rens, pEncC_okIns, pEncC_inj]
          · simp [ren, rens, sg, sig, okIn, okIns, exK, leK, leF, leV, matK, objM, renO, roSame, lh, born, AObj.born, AObj.live, injOk, kindOf, rens_ints, okIns_ints, List.range, List.range.loop, mrg, mset, pEncL, pEncC_rens, pEncC_okIns, pEncC_inj]
          simp only [pEncL]
          simp (maxSteps := 2000000) only [↓vP0, vQ0, vT0, simprocAttr, pEncC_rens]
          refine ⟨5, ⟨by omega, fun j hj => hnext j hT hj⟩, by omega, [9, 10, 11, 12, 13, 14, 23, 16, 17, 21], ?_⟩
          simp only [leR, hE2]
          simp [ren, rens, sg, sig, okIn, okIns, exK, leK, leF, leV, matK, objM, renO, roSame, lh, born, AObj.born, AObj.live, injOk, kindOf, rens_ints, okIns_ints, List.range, List.range.loop, mrg, mset, leF, leV, leK, pEncC_rens, pEncC_okIns, pEncC_inj, rEncC_rens, rEncC_okIns, rEncC_inj, boolsF_rens, boolsF_okIns, hbr, hbo, (show IntKind.i64.wrap 5 = 5 by decide)]
        | false =>
          obtain ⟨p1, p2, p3⟩ := hput 0 (by simp [KdOk])
          have hgo := go 0 (by simp [KdOk]) (by rw [hbit]; rfl)
          have c1 := c_rPut E k1 0 (by omega) 0 (by simp [KdOk]) (by omega)
          have c2 := c_r8Put (E.put 0 0) p1 b t dx dy ty kd ho (l.getD 4 bm0).1 (l.getD 4 bm0).2.1 w' v' (l.getD 4 bm0).2.2 q hbm hr hpx hq hT hr1 (by omega) (by omega) (by omega) _ rfl
          have c3 := c_pPut E k1 0 (by omega) 0 (by simp [KdOk]) (by omega)
          have c4 := c_p8Put (E.put 0 0) p1 b t dx dy ty kd ho (l.getD 4 bm0).1 (l.getD 4 bm0).2.1 w' v' (l.getD 4 bm0).2.2 q hbm hr hpx hq hT hr1 (by omega) (by omega) (by omega) _ rfl
          rw [hgo] at c2 c4
          generalize E.put 0 0 = E1 at c1 c2 c3 c4
          generalize hE2 : encAll (encNew kd (zeros n)) (evU t dx dy ty b w' v' q l bits 5) = E2 at c2 c4
          simp (maxSteps := 2000000) only [↓vP0, vQ0, vT0, simprocAttr, gb, hbit]
          refine callK_det (c1) [16, 17, 18] ?_ ?_ ?_ rfl (by simp [rEncL, rEncM, rEncC_rens, rEncC_okIns, rEncC_inj]) ?_
          · simp [ren, rens, sg, sig, okIn, okIns, exK, leK, leF, leV, matK, objM, renO, roSame, lh, born, AObj.born, AObj.live, injOk, kindOf, rens_ints, okIns_ints, List.range, List.range.loop, mrg, mset, rEncL, rEncM, rEncC_rens, rEncC_okIns, rEncC_inj]
          · simp [ren, rens, sg, sig, okIn, okIns, exK, leK, leF, leV, matK, objM, renO, roSame, lh, born, AObj.born, AObj.live, injOk, kindOf, rens_ints, okIns_ints, List.range, List.range.loop, mrg, mset, rEncL, rEncM, rEncC_rens, rEncC_okIns, rEncC_inj]
          · simp [ren, rens, sg, sig, okIn, okIns, exK, leK, leF, leV, matK, objM, renO, roSame, lh, born, AObj.born, AObj.live, injOk, kindOf, rens_ints, okIns_ints, List.range, List.range.loop, mrg, mset, rEncL, rEncM, rEncC_rens, rEncC_okIns, rEncC_inj]
          simp only [rEncL, rEncM]
          simp (maxSteps := 2000000) only [↓vP0, vQ0, vT0, simprocAttr, rEncC_rens]
          refine callK_det (c2) [16, 17, 20, 7, 1] ?_ ?_ ?_ rfl (by simp [rEncL, rEncC_rens, rEncC_okIns, rEncC_inj]) ?_
          · simp [ren, rens, sg, sig, okIn, okIns, exK, leK, leF, leV, matK, objM, renO, roSame, lh, born, AObj.born, AObj.live, injOk, kindOf, rens_ints, okIns_ints, List.range, List.range.loop, mrg, mset, rEncL, rEncC_rens, rEncC_okIns, rEncC_inj]
          · simp [ren, rens, sg, sig, okIn, okIns, exK, leK, leF, leV, matK, objM, renO, roSame, lh, born, AObj.born, AObj.live, injOk, kindOf, rens_ints, okIns_ints, List.range, List.range.loop, mrg, mset, rEncL, rEncC_rens, rEncC_okIns, rEncC_inj]
          · simp [ren, rens, sg, sig, okIn, okIns, exK, leK, leF, leV, matK, objM, renO, roSame, lh, born, AObj.born, AObj.live, injOk, kindOf, rens_ints, okIns_ints, List.range, List.range.loop, mrg, mset, rEncL, rEncC_rens, rEncC_okIns, rEncC_inj]
          simp only [rEncL]
          simp (maxSteps := 2000000) only [↓vP0, vQ0, vT0, simprocAttr, rEncC_rens]
          refine callK_det (c3) [13, 14, 15] ?_ ?_ ?_ rfl (by simp [pEncL, pEncM, pEncC_rens, pEncC_okIns, pEncC_inj]) ?_
          · simp [ren, rens, sg, sig, okIn, okIns, exK, leK, leF, leV, matK, objM, renO, roSame, lh, born, AObj.born, AObj.live, injOk, kindOf, rens_ints, okIns_ints, List.range, List.range.loop, mrg, mset, pEncL, pEncM, pEncC_rens, pEncC_okIns, pEncC_inj]
          · simp [ren, rens, sg, sig, okIn, okIns, exK, leK, leF, leV, matK, objM, renO, roSame, lh, born, AObj.born, AObj.live, injOk, kindOf, rens_ints, okIns_ints, List.range, List.range.loop, mrg, mset, pEncL, pEncM, pEncC_rens, pEncC_okIns, pEncC_inj]
          · simp [ren, rens, sg, sig, okIn, okIns, exK, leK, leF, leV, matK, objM, renO, roSame, lh, born, AObj.born, AObj.live, injOk, kindOf, rens_ints, okIns_ints, List.range, List.range.loop, mrg, mset, pEncL, pEncM, pEncC_rens, pEncC_okIns, pEncC_inj]
          simp only [pEncL, pEncM]
          simp (maxSteps := 2000000) only [↓vP0, vQ0, vT0, simprocAttr, pEncC_rens]
          refine callK_det (c4) [13, 14, 22, 7, 1] ?_ ?_ ?_ rfl (by simp [pEncL, pEncC_rens, pEncC_okIns, pEncC_inj]) ?_
          · simp [ren, rens, sg, sig, okIn, okIns, exK, leK, leF, leV, matK, objM, renO, roSame, lh, born, AObj.born, AObj.live, injOk, kindOf, rens_ints, okIns_ints, List.range, List.range.loop, mrg, mset, pEncL, pEncC_rens, pEncC_okIns, pEncC_inj]
          · simp [ren, rens, sg, sig, okIn, okIns, exK, leK, leF, leV, matK, objM, renO, roSame, lh, born, AObj.born, AObj.live, injOk, kindOf, rens_ints, okIns_ints, List.range, List.range.loop, mrg, mset, pEncL, pEncC_rens, pEncC_okIns, pEncC_inj]
          · simp [ren, rens, sg, sig, okIn, okIns, exK, leK, leF, leV, matK, objM, renO, roSame, lh, born, AObj.born, AObj.live, injOk, kindOf, rens_ints, okIns_ints, List.range, List.range.loop, mrg, mset, pEncL, pEncC_rens, pEncC_okIns, pEncC_inj]
          simp only [pEncL]
          simp (maxSteps := 2000000) only [↓vP0, vQ0, vT0, simprocAttr, pEncC_rens]
          refine ⟨5, ⟨by omega, fun j hj => hnext j hT hj⟩, by omega, [9, 10, 11, 12, 13, 14, 23, 16, 17, 21], ?_⟩
          simp only [leR, hE2]
          simp [ren, rens, sg, sig, okIn, okIns, exK, leK, leF, leV, matK, objM, renO, roSame, lh, born, AObj.born, AObj.live, injOk, kindOf, rens_ints, okIns_ints, List.range, List.range.loop, mrg, mset, leF, leV, leK, pEncC_rens, pEncC_okIns, pEncC_inj, rEncC_rens, rEncC_okIns, rEncC_inj, boolsF_rens, boolsF_okIns, hbr, hbo, (show IntKind.i64.wrap 5 = 5 by decide)]
    · have g : ((bmsF 3 l).drop 15).take 3 = [.int .i64 (l.getD 5 bm0).1, .int .i64 (l.getD 5 bm0).2.1, .slice 8 0 (l.getD 5 bm0).2.2.length] := bmsF_get 3 l 5 hil
      have gb := boolsF_get bits 5 (by omega)
      have hlen := bmsF_len 3 l
      obtain ⟨hby, hbg⟩ := hlb 5 (by omega)
      generalize encAll (encNew kd (zeros n)) (evU t dx dy ty b w' v' q l bits 5) = E at k1 k2 k3 k4 hst
      simp (maxSteps := 2000000) only [↓vP0, vQ0, vT0, simprocAttr]
      refine chk_intro (by omega) ?_
      simp (maxSteps := 2000000) only [↓vP0, vQ0, vT0, simprocAttr, g]
      refine chk_intro (by omega) ?_
      simp (maxSteps := 2000000) only [↓vP0, vQ0, vT0, simprocAttr, g]
      refine callK_read (c_rIsBitmap (l.getD 5 bm0).1 (l.getD 5 bm0).2.1 (l.getD 5 bm0).2.2 hbg) [8] ?_ ?_ ?_ rfl ?_
      · simp [ren, rens, sg, sig, okIn, okIns, exK, leK, leF, leV, matK, objM, renO, roSame, lh, born, AObj.born, AObj.live, injOk, kindOf, rens_ints, okIns_ints, List.range, List.range.loop, mrg, mset]
      · simp [ren, rens, sg, sig, okIn, okIns, exK, leK, leF, leV, matK, objM, renO, roSame, lh, born, AObj.born, AObj.live, injOk, kindOf, rens_ints, okIns_ints, List.range, List.range.loop, mrg, mset]
      · simp [ren, rens, sg, sig, okIn, okIns, exK, leK, leF, leV, matK, objM, renO, roSame, lh, born, AObj.born, AObj.live, injOk, kindOf, rens_ints, okIns_ints, List.range, List.range.loop, mrg, mset]
      cases hT : bmB (l.getD 5 bm0).1 (l.getD 5 bm0).2.1 (l.getD 5 bm0).2.2 with
      | false =>
        have ha : askErr t dx dy kd (bmB (l.getD 5 bm0).1 (l.getD 5 bm0).2.1 (l.getD 5 bm0).2.2 && bmB w' v' q) b E.st.length = 30 := by rw [askErr, if_neg (not_not_intro ho), hT, Bool.false_and, if_pos rfl]
        have hc := c_p8PutErr E b (by omega) t dx dy hdx hdy ty kd (l.getD 5 bm0).1 (l.getD 5 bm0).2.1 w' v' (l.getD 5 bm0).2.2 q hbg hql (by omega) (by rw [ha]; omega)
        rw [ha] at hc
        simp (maxSteps := 2000000) only [↓vP0, vQ0, vT0, simprocAttr]
        refine callK_read (hc) [13, 14, 15, 8, 1] ?_ ?_ ?_ rfl ?_
        · simp [ren, rens, sg, sig, okIn, okIns, exK, leK, leF, leV, matK, objM, renO, roSame, lh, born, AObj.born, AObj.live, injOk, kindOf, rens_ints, okIns_ints, List.range, List.range.loop, mrg, mset, pEncL, pEncC_rens, pEncC_okIns, pEncC_inj]
        · simp [ren, rens, sg, sig, okIn, okIns, exK, leK, leF, leV, matK, objM, renO, roSame, lh, born, AObj.born, AObj.live, injOk, kindOf, rens_ints, okIns_ints, List.range, List.range.loop, mrg, mset, pEncL, pEncC_rens, pEncC_okIns, pEncC_inj]
        · simp [ren, rens, sg, sig, okIn, okIns, exK, leK, leF, leV, matK, objM, renO, roSame, lh, born, AObj.born, AObj.live, injOk, kindOf, rens_ints, okIns_ints, List.range, List.range.loop, mrg, mset, pEncL, pEncC_rens, pEncC_okIns, pEncC_inj]
        simp (maxSteps := 2000000) only [↓vP0, vQ0, vT0, simprocAttr]
        refine callK_pure (c_Awake) rfl rfl ?_
        simp (maxSteps := 2000000) only [↓vP0, vQ0, vT0, simprocAttr]
        exact exit_keep (L1 := lawL l q bits) ⟨rfl, rfl⟩ trivial hkeep
      | true =>
        obtain ⟨hbm, hpx⟩ := bmB_ok hby hT
        simp (maxSteps := 2000000) only [↓vP0, vQ0, vT0, simprocAttr]
        refine chk_intro (by omega) ?_
        have hput : ∀ z : Int, KdOk z → (E.put 0 z).Ok ∧ (E.put 0 z).st.length = n ∧ (E.put 0 z).out.length ≤ 1000004 := by
          intro z hz
          obtain ⟨p1, p2, p3, p4⟩ := put_ok (c := 0) (bit := z) k1 (by omega) hz
          exact ⟨p1, by rw [p3]; simp [k3], by omega⟩
        have go : ∀ z : Int, KdOk z → bit01 (bits.getD 5 false) = z → encAll ((E.put 0 z)) (mv b (refEv t dx dy ty (l.getD 5 bm0).1 (l.getD 5 bm0).2.1 (l.getD 5 bm0).2.2 w' v' q)) = encAll (encNew kd (zeros n)) (evU t dx dy ty b w' v' q l bits 6) := by
          intro z _ hz; rw [← hz]; exact hst.symm
        have hpl := bmOk_len hbm
        cases hbit : bits.getD 5 false with
        | true =>
          obtain ⟨p1, p2, p3⟩ := hput 1 (by simp [KdOk])
          have hgo := go 1 (by simp [KdOk]) (by rw [hbit]; rfl)
          have c1 := c_rPut E k1 0 (by omega) 1 (by simp [KdOk]) (by omega)
          have c2 := c_r8Put (E.put 0 1) p1 b t dx dy ty kd ho (l.getD 5 bm0).1 (l.getD 5 bm0).2.1 w' v' (l.getD 5 bm0).2.2 q hbm hr hpx hq hT hr1 (by omega) (by omega) (by omega) _ rfl
          have c3 := c_pPut E k1 0 (by omega) 1 (by simp [KdOk]) (by omega)
          have c4 := c_p8Put (E.put 0 1) p1 b t dx dy ty kd ho (l.getD 5 bm0).1 (l.getD 5 bm0).2.1 w' v' (l.getD 5 bm0).2.2 q hbm hr hpx hq hT hr1 (by omega) (by omega) (by omega) _ rfl
          rw [hgo] at c2 c4
          generalize E.put 0 1 = E1 at c1 c2 c3 c4
          generalize hE2 : encAll (encNew kd (zeros n)) (evU t dx dy ty b w' v' q l bits 6) = E2 at c2 c4
          simp (maxSteps := 2000000) only [↓vP0, vQ0, vT0, simprocAttr, gb, hbit]
          refine callK_det (c1) [16, 17, 18] ?_ ?_ ?_ rfl (by simp [rEncL, rEncM, rEncC_rens, rEncC_okIns, rEncC_inj]) ?_
          · simp [ren, rens, sg, sig, okIn, okIns, exK, leK, leF, leV, matK, objM, renO, roSame, lh, born, AObj.born, AObj.live, injOk, kindOf, rens_ints, okIns_ints, List.range, List.range.loop, mrg, mset, rEncL, rEncM, rEncC_rens, rEncC_okIns, rEncC_inj]
          · simp [ren, rens, sg, sig, okIn, okIns, exK, leK, leF, leV, matK, objM, renO, roSame, lh, born, AObj.born, AObj.live, injOk, kindOf, rens_ints, okIns_ints, List.range, List.range.loop, mrg, mset, rEncL, rEncM, rEncC_rens, rEncC_okIns, rEncC_inj]
          · simp [ren, rens, sg, sig, okIn, okIns, exK, leK, leF, leV, matK, objM, renO, roSame, lh, born, AObj.born, AObj.live, injOk, kindOf, rens_ints, okIns_ints, List.range, List.range.loop, mrg, mset, rEncL, rEncM, rEncC_rens, rEncC_okIns, rEncC_inj]
          simp only [rEncL, rEncM]
          simp (maxSteps := 2000000) only [↓vP0, vQ0, vT0, simprocAttr, rEncC_rens]
          refine callK_det (c2) [16, 17, 20, 8, 1] ?_ ?_ ?_ rfl (by simp [rEncL, rEncC_rens, rEncC_okIns, rEncC_inj]) ?_
          · simp [ren, rens, sg, sig, okIn, okIns, exK, leK, leF, leV, matK, objM, renO, roSame, lh, born, AObj.born, AObj.live, injOk, kindOf, rens_ints, okIns_ints, List.range, List.range.loop, mrg, mset, rEncL, rEncC_rens, rEncC_okIns, rEncC_inj]
          · simp [ren, rens, sg, sig, okIn, okIns, exK, leK, leF, leV, matK, objM, renO, roSame, lh, born, AObj.born, AObj.live, injOk, kindOf, rens_ints, okIns_ints, List.range, List.range.loop, mrg, mset, rEncL, rEncC_rens, rEncC_okIns, rEncC_inj]
          · simp [ren, rens, sg, sig, okIn, okIns, exK, leK, leF, leV, matK, objM, renO, roSame, lh, born, AObj.born, AObj.live, injOk, kindOf, rens_ints, okIns_ints, List.range, List.range.loop, mrg, mset, rEncL, rEncC_rens, rEncC_okIns, rEncC_inj]
          simp only [rEncL]
          simp (maxSteps := 2000000) only [↓vP0, vQ0, vT0, simprocAttr, rEncC_rens]
          refine callK_det (c3) [13, 14, 15] ?_ ?_ ?_ rfl (by simp [pEncL, pEncM, pEncC_rens, pEncC_okIns, pEncC_inj]) ?_
          · simp [ren, rens, sg, sig, okIn, okIns, exK, leK, leF, leV, matK, objM, renO, roSame, lh, born, AObj.born, AObj.live, injOk, kindOf, rens_ints, okIns_ints, List.range, List.range.loop, mrg, mset, pEncL, pEncM, pEncC_rens, pEncC_okIns, pEncC_inj]
          · simp [ren, rens, sg, sig, okIn, okIns, exK, leK, leF, leV, matK, objM, renO, roSame, lh, born, AObj.born, AObj.live, injOk, kindOf, rens_ints, okIns_ints, List.range, List.range.loop, mrg, mset, pEncL, pEncM, pEncC_rens, pEncC_okIns, pEncC_inj]
          · simp [ren, rens, sg, sig, okIn, okIns, exK, leK, leF, leV, matK, objM, renO, roSame, lh, born, AObj.born, AObj.live, injOk, kindOf, rens_ints, okIns_ints, List.range, List.range.loop, mrg, mset, pEncL, pEncM, pEncC_rens, pEncC_okIns, pEncC_inj]
          simp only [pEncL, pEncM]
          simp (maxSteps := 2000000) only [↓vP0, vQ0, vT0, simprocAttr, pEncC_rens]
          refine callK_det (c4) [13, 14, 22, 8, 1] ?_ ?_ ?_ rfl (by simp [pEncL, pEncC_rens, pEncC_okIns, pEncC_inj]) ?_
          · simp [ren, rens, sg, sig, okIn, okIns, exK, leK, leF, leV, matK, objM, renO, roSame, lh, born, AObj.born, AObj.live, injOk, kindOf, rens_ints, okIns_ints, List.range, List.range.loop, mrg, mset, pEncL, pEncC_rens, pEncC_okIns, pEncC_inj]
          · simp [ren, rens, sg, sig, okIn, okIns, exK, leK, leF, leV, matK, objM, renO, roSame, lh, born, AObj.born, AObj.live, injOk, kindOf, rens_ints, okIns_ints, List.range, List.range.loop, mrg, mset, pEncL, pEncC_rens, pEncC_okIns, pEncC_inj]
          · simp [ren, rens, sg, sig, okIn, okIns, exK, leK, leF, leV, matK, objM, renO, roSame, lh, born, AObj.born, AObj.live, injOk, kindOf, rens_ints, okIns_ints, List.range, List.range.loop, mrg, mset, pEncL, pEncC_rens, pEncC_okIns, pEncC_inj]
          simp only [pEncL]
          simp (maxSteps := 2000000) only [↓vP0, vQ0, vT0, simprocAttr, pEncC_rens]
          refine ⟨6, ⟨by omega, fun j hj => hnext j hT hj⟩, by omega, [9, 10, 11, 12, 13, 14, 23, 16, 17, 21], ?_⟩
          simp only [leR, hE2]
          simp [ren, rens, sg, sig, okIn, okIns, exK, leK, leF, leV, matK, objM, renO, roSame, lh, born, AObj.born, AObj.live, injOk, kindOf, rens_ints, okIns_ints, List.range, List.range.loop, mrg, mset, leF, leV, leK, pEncC_rens, pEncC_okIns, pEncC_inj, rEncC_rens, rEncC_okIns, rEncC_inj, boolsF_rens, boolsF_okIns, hbr, hbo, (show IntKind.i64.wrap 6 = 6 by decide)]
        | false =>
          obtain ⟨p1, p2, p3⟩ := hput 0 (by simp [KdOk])
          have hgo := go 0 (by simp [KdOk]) (by rw [hbit]; rfl)
          have c1 := c_rPut E k1 0 (by omega) 0 (by simp [KdOk]) (by omega)
          have c2 := c_r8Put (E.put 0 0) p1 b t dx dy ty kd ho (l.getD 5 bm0).1 (l.getD 5 bm0).2.1 w' v' (l.getD 5 bm0).2.2 q hbm hr hpx hq hT hr1 (by omega) (by omega) (by omega) _ rfl
          have c3 := c_pPut E k1 0 (by omega) 0 (by simp [KdOk]) (by omega)
          have c4 := c_p8Put (E.put 0 0) p1 b t dx dy ty kd ho (l.getD 5 bm0).1 (l.getD 5 bm0).2.1 w' v' (l.getD 5 bm0).2.2 q hbm hr hpx hq hT hr1 (by omega) (by omega) (by omega) _ rfl
          rw [hgo] at c2 c4
          generalize E.put 0 0 = E1 at c1 c2 c3 c4
          generalize hE2 : encAll (encNew kd (zeros n)) (evU t dx dy ty b w' v' q l bits 6) = E2 at c2 c4
          simp (maxSteps := 2000000) only [↓vP0, vQ0, vT0, simprocAttr, gb, hbit]
          refine callK_det (c1) [16, 17, 18] ?_ ?_ ?_ rfl (by simp [rEncL, rEncM, rEncC_rens, rEncC_okIns, rEncC_inj]) ?_
          · simp [ren, rens, sg, sig, okIn, okIns, exK, leK, leF, leV, matK, objM, renO, roSame, lh, born, AObj.born, AObj.live, injOk, kindOf, rens_ints, okIns_ints, List.range, List.range.loop, mrg, mset, rEncL, rEncM, rEncC_rens, rEncC_okIns, rEncC_inj]
          · simp [ren, rens, sg, sig, okIn, okIns, exK, leK, leF, leV, matK, objM, renO, roSame, lh, born, AObj.born, AObj.live, injOk, kindOf, rens_ints, okIns_ints, List.range, List.range.loop, mrg, mset, rEncL, rEncM, rEncC_rens, rEncC_okIns, rEncC_inj]
          · simp [ren, rens, sg, sig, okIn, okIns, exK, leK, leF, leV, matK, objM, renO, roSame, lh, born, AObj.born, AObj.live, injOk, kindOf, rens_ints, okIns_ints, List.range, List.range.loop, mrg, mset, rEncL, rEncM, rEncC_rens, rEncC_okIns, rEncC_inj]
          simp only [rEncL, rEncM]
          simp (maxSteps := 2000000) only [↓vP0, vQ0, vT0, simprocAttr, rEncC_rens]
          refine callK_det (c2) [16, 17, 20, 8, 1] ?_ ?_ ?_ rfl (by simp [rEncL, rEncC_rens, rEncC_okIns, rEncC_inj]) ?_
          · simp [ren, rens, sg, sig, okIn, okIns, exK, leK, leF, leV, matK, objM, renO, roSame, lh, born, AObj.born, AObj.live, injOk, kindOf, rens_ints, okIns_ints, List.range, List.range.loop, mrg, mset, rEncL, rEncC_rens, rEncC_okIns, rEncC_inj]
          · simp [ren, rens, sg, sig, okIn, okIns, exK, leK, leF, leV, matK, objM, renO, roSame, lh, born, AObj.born, AObj.live, injOk, kindOf, rens_ints, okIns_ints, List.range, List.range.loop, mrg, mset, rEncL, rEncC_rens, rEncC_okIns, rEncC_inj]
          · simp [ren, rens, sg, sig, okIn, okIns, exK, leK, leF, leV, matK, objM, renO, roSame, lh, born, AObj.born, AObj.live, injOk, kindOf, rens_ints, okIns_ints, List.range, List.range.loop, mrg, mset, rEncL, rEncC_rens, rEncC_okIns, rEncC_inj]
          simp only [rEncL]
          simp (maxSteps := 2000000) only [↓vP0, vQ0, vT0, simprocAttr, rEncC_rens]
          refine callK_det (c3) [13, 14, 15] ?_ ?_ ?_ rfl (by simp [pEncL, pEncM, pEncC_rens, pEncC_okIns, pEncC_inj]) ?_
          · simp [ren, rens, sg, sig, okIn, okIns, exK, leK, leF, leV, matK, objM, renO, roSame, lh, born, AObj.born, AObj.live, injOk, kindOf, rens_ints, okIns_ints, List.range, List.range.loop, mrg, mset, pEncL, pEncM, pEncC_rens, pEncC_okIns, pEncC_inj]
          · simp [ren, rens, sg, sig, okIn, okIns, exK, leK, leF, leV, matK, objM, renO, roSame, lh, born, AObj.born, AObj.live, injOk, kindOf, rens_ints, okIns_ints, List.range, List.range.loop, mrg, mset, pEncL, pEncM, pEncC_rens, pEncC_okIns, pEncC_inj]
          · simp [ren, rens, sg, sig, okIn, okIns, exK, leK, leF, leV, matK, objM, renO, roSame, lh, born, AObj.born, AObj.live, injOk, kindOf, rens_ints, okIns_ints, List.range, List.range.loop, mrg, mset, pEncL, pEncM, pEncC_rens, pEncC_okIns, pEncC_inj]
          simp only [pEncL, pEncM]
          simp (maxSteps := 2000000) only [↓vP0, vQ0, vT0, simprocAttr, pEncC_rens]
          refine callK_det (c4) [13, 14, 22, 8, 1] ?_ ?_ ?_ rfl (by simp [pEncL, pEncC_rens, pEncC_okIns, pEncC_inj]) ?_
          · simp [ren, rens, sg, sig, okIn, okIns, exK, leK, leF, leV, matK, objM, renO, roSame, lh, born, AObj.born, AObj.live, injOk, kindOf, rens_ints, okIns_ints, List.range, List.range.loop, mrg, mset, pEncL, pEncC_rens, pEncC_okIns, pEncC_inj]
          · simp [ren, rens, sg, sig, okIn, okIns, exK, leK, leF, leV, matK, objM, renO, roSame, lh, born, AObj.born, AObj.live, injOk, kindOf, rens_ints, okIns_ints, List.range, List.range.loop, mrg, mset, pEncL, pEncC_rens, pEncC_okIns, pEncC_inj]
          · simp [ren, rens, sg, sig, okIn, okIns, exK, leK, leF, leV, matK, objM, renO, roSame, lh, born, AObj.born, AObj.live, injOk, kindOf, rens_ints, okIns_ints, List.range, List.range.loop, mrg, mset, pEncL, pEncC_rens, pEncC_okIns, pEncC_inj]
          simp only [pEncL]
          simp (maxSteps := 2000000) only [↓vP0, vQ0, vT0, simprocAttr, pEncC_rens]
          refine ⟨6, ⟨by omega, fun j hj => hnext j hT hj⟩, by omega, [9, 10, 11, 12, 13, 14, 23, 16, 17, 21], ?_⟩
          simp only [leR, hE2]
          simp [ren, rens, sg, sig, okIn, okIns, exK, leK, leF, leV, matK, objM, renO, roSame, lh, born, AObj.born, AObj.live, injOk, kindOf, rens_ints, okIns_ints, List.range, List.range.loop, mrg, mset, leF, leV, leK, pEncC_rens, pEncC_okIns, pEncC_inj, rEncC_rens, rEncC_okIns, rEncC_inj, boolsF_rens, boolsF_okIns, hbr, hbo, (show IntKind.i64.wrap 6 = 6 by decide)]
  · have hil : i = l.length := by omega
    subst hil
    have hev := (evU_ok (t := t) (dx := dx) (dy := dy) (ty := ty) (base := b) (w' := w') (v' := v') (bits := bits) ho.1 hq l.length fun j hj => by
      obtain ⟨c1, c2⟩ := bmB_ok (hlb j (by omega)).1 (hok j hj); exact ⟨c2, c1⟩).1
    rw [hbn] at hev
    have hfeed := feeds_new hz (l := evU t dx dy ty b w' v' q l bits l.length) (by rw [zeros_len]; exact hev)
    have hby := encAll_by (evU t dx dy ty b w' v' q l bits l.length) _ hN (by rw [hst0]; exact hev) (fun x hx => by simp [encNew] at hx)
    have hcb := fin_by k1 hby
    have hcl : (encAll (encNew kd (zeros n)) (evU t dx dy ty b w' v' q l bits l.length)).fin.length ≤ 2000000 := by
      rw [Enc.fin, List.length_append]
      have : ∀ hi n, (endL hi n).length ≤ 4 := fun hi n => by simp [endL]; omega
      have := this (encAll (encNew kd (zeros n)) (evU t dx dy ty b w' v' q l bits l.length)).hi (endN (encAll (encNew kd (zeros n)) (evU t dx dy ty b w' v' q l bits l.length)).lo (encAll (encNew kd (zeros n)) (evU t dx dy ty b w' v' q l bits l.length)).hi)
      omega
    clear hst hnext step facts
    generalize hE : encAll (encNew kd (zeros n)) (evU t dx dy ty b w' v' q l bits l.length) = E at *
    simp (maxSteps := 2000000) only [↓vP0, vQ0, vT0, simprocAttr]
    refine callK_det (c_pEnd E k1 (by omega)) [13, 14, 15] ?_ ?_ ?_ rfl (by simp [pEncR, pEncC_rens, pEncC_okIns, pEncC_inj]) ?_
    · simp [ren, rens, sg, sig, okIn, okIns, exK, leK, leF, leV, matK, objM, renO, roSame, lh, born, AObj.born, AObj.live, injOk, kindOf, rens_ints, okIns_ints, List.range, List.range.loop, mrg, mset, pEncR, pEncC_rens, pEncC_okIns, pEncC_inj]
    · simp [ren, rens, sg, sig, okIn, okIns, exK, leK, leF, leV, matK, objM, renO, roSame, lh, born, AObj.born, AObj.live, injOk, kindOf, rens_ints, okIns_ints, List.range, List.range.loop, mrg, mset, pEncR, pEncC_rens, pEncC_okIns, pEncC_inj]
    · simp [ren, rens, sg, sig, okIn, okIns, exK, leK, leF, leV, matK, objM, renO, roSame, lh, born, AObj.born, AObj.live, injOk, kindOf, rens_ints, okIns_ints, List.range, List.range.loop, mrg, mset, pEncR, pEncC_rens, pEncC_okIns, pEncC_inj]
    simp only [pEncR]
    simp (maxSteps := 2000000) only [↓vP0, vQ0, vT0, simprocAttr, pEncC_rens]
    refine callK_det (c_rEnd E k1 (by omega)) [16, 17, 18] ?_ ?_ ?_ rfl (by simp [rEncR, rEncC_rens, rEncC_okIns, rEncC_inj]) ?_
    · simp [ren, rens, sg, sig, okIn, okIns, exK, leK, leF, leV, matK, objM, renO, roSame, lh, born, AObj.born, AObj.live, injOk, kindOf, rens_ints, okIns_ints, List.range, List.range.loop, mrg, mset, rEncR, rEncC_rens, rEncC_okIns, rEncC_inj]
    · simp [ren, rens, sg, sig, okIn, okIns, exK, leK, leF, leV, matK, objM, renO, roSame, lh, born, AObj.born, AObj.live, injOk, kindOf, rens_ints, okIns_ints, List.range, List.range.loop, mrg, mset, rEncR, rEncC_rens, rEncC_okIns, rEncC_inj]
    · simp [ren, rens, sg, sig, okIn, okIns, exK, leK, leF, leV, matK, objM, renO, roSame, lh, born, AObj.born, AObj.live, injOk, kindOf, rens_ints, okIns_ints, List.range, List.range.loop, mrg, mset, rEncR, rEncC_rens, rEncC_okIns, rEncC_inj]
    simp only [rEncR]
    simp (maxSteps := 2000000) only [↓vP0, vQ0, vT0, simprocAttr, rEncC_rens]
    refine callK_read (c_SameBytes E.fin E.fin (by omega) (by omega)) [19, 20] ?_ ?_ ?_ rfl ?_
    · simp [ren, rens, sg, sig, okIn, okIns, exK, leK, leF, leV, matK, objM, renO, roSame, lh, born, AObj.born, AObj.live, injOk, kindOf, rens_ints, okIns_ints, List.range, List.range.loop, mrg, mset]
    · simp [ren, rens, sg, sig, okIn, okIns, exK, leK, leF, leV, matK, objM, renO, roSame, lh, born, AObj.born, AObj.live, injOk, kindOf, rens_ints, okIns_ints, List.range, List.range.loop, mrg, mset]
    · simp [ren, rens, sg, sig, okIn, okIns, exK, leK, leF, leV, matK, objM, renO, roSame, lh, born, AObj.born, AObj.live, injOk, kindOf, rens_ints, okIns_ints, List.range, List.range.loop, mrg, mset]
    simp (maxSteps := 2000000) only [↓vP0, vQ0, vT0, simprocAttr, dT (show E.fin = E.fin from rfl)]
    refine callK_det (c_pModel E (by omega)) [13, 14, 15] ?_ ?_ ?_ rfl (by simp [pEncR, pEncC_rens, pEncC_okIns, pEncC_inj]) ?_
    · simp [ren, rens, sg, sig, okIn, okIns, exK, leK, leF, leV, matK, objM, renO, roSame, lh, born, AObj.born, AObj.live, injOk, kindOf, rens_ints, okIns_ints, List.range, List.range.loop, mrg, mset, pEncR, pEncC_rens, pEncC_okIns, pEncC_inj]
    · simp [ren, rens, sg, sig, okIn, okIns, exK, leK, leF, leV, matK, objM, renO, roSame, lh, born, AObj.born, AObj.live, injOk, kindOf, rens_ints, okIns_ints, List.range, List.range.loop, mrg, mset, pEncR, pEncC_rens, pEncC_okIns, pEncC_inj]
    · simp [ren, rens, sg, sig, okIn, okIns, exK, leK, leF, leV, matK, objM, renO, roSame, lh, born, AObj.born, AObj.live, injOk, kindOf, rens_ints, okIns_ints, List.range, List.range.loop, mrg, mset, pEncR, pEncC_rens, pEncC_okIns, pEncC_inj]
    simp only [pEncR]
    simp (maxSteps := 2000000) only [↓vP0, vQ0, vT0, simprocAttr, pEncC_rens]
    refine callK_det (c_rModel E (by omega)) [16, 17, 18] ?_ ?_ ?_ rfl (by simp [rEncR, rEncC_rens, rEncC_okIns, rEncC_inj]) ?_
    · simp [ren, rens, sg, sig, okIn, okIns, exK, leK, leF, leV, matK, objM, renO, roSame, lh, born, AObj.born, AObj.live, injOk, kindOf, rens_ints, okIns_ints, List.range, List.range.loop, mrg, mset, rEncR, rEncC_rens, rEncC_okIns, rEncC_inj]
    · simp [ren, rens, sg, sig, okIn, okIns, exK, leK, leF, leV, matK, objM, renO, roSame, lh, born, AObj.born, AObj.live, injOk, kindOf, rens_ints, okIns_ints, List.range, List.range.loop, mrg, mset, rEncR, rEncC_rens, rEncC_okIns, rEncC_inj]
    · simp [ren, rens, sg, sig, okIn, okIns, exK, leK, leF, leV, matK, objM, renO, roSame, lh, born, AObj.born, AObj.live, injOk, kindOf, rens_ints, okIns_ints, List.range, List.range.loop, mrg, mset, rEncR, rEncC_rens, rEncC_okIns, rEncC_inj]
    simp only [rEncR]
    simp (maxSteps := 2000000) only [↓vP0, vQ0, vT0, simprocAttr, rEncC_rens]
    refine callK_read (c_SameModel E.kd E.kd E.st E.st (by omega) (by omega)) [21, 22] ?_ ?_ ?_ rfl ?_
    · simp [ren, rens, sg, sig, okIn, okIns, exK, leK, leF, leV, matK, objM, renO, roSame, lh, born, AObj.born, AObj.live, injOk, kindOf, rens_ints, okIns_ints, List.range, List.range.loop, mrg, mset]
    · simp [ren, rens, sg, sig, okIn, okIns, exK, leK, leF, leV, matK, objM, renO, roSame, lh, born, AObj.born, AObj.live, injOk, kindOf, rens_ints, okIns_ints, List.range, List.range.loop, mrg, mset]
    · simp [ren, rens, sg, sig, okIn, okIns, exK, leK, leF, leV, matK, objM, renO, roSame, lh, born, AObj.born, AObj.live, injOk, kindOf, rens_ints, okIns_ints, List.range, List.range.loop, mrg, mset]
    simp (maxSteps := 2000000) only [↓vP0, vQ0, vT0, simprocAttr, dT (show E.kd = E.kd ∧ E.st = E.st from ⟨rfl, rfl⟩)]
    generalize hcode : E.fin = code at *
    refine callK_det (c_pNewDecoder kd (zeros n) code hz hcb (by omega)) [11, 19] ?_ ?_ ?_ rfl (by simp [zeros]) ?_
    · simp [ren, rens, sg, sig, okIn, okIns, exK, leK, leF, leV, matK, objM, renO, roSame, lh, born, AObj.born, AObj.live, injOk, kindOf, rens_ints, okIns_ints, List.range, List.range.loop, mrg, mset, zeros]
    · simp [ren, rens, sg, sig, okIn, okIns, exK, leK, leF, leV, matK, objM, renO, roSame, lh, born, AObj.born, AObj.live, injOk, kindOf, rens_ints, okIns_ints, List.range, List.range.loop, mrg, mset, zeros]
    · simp [ren, rens, sg, sig, okIn, okIns, exK, leK, leF, leV, matK, objM, renO, roSame, lh, born, AObj.born, AObj.live, injOk, kindOf, rens_ints, okIns_ints, List.range, List.range.loop, mrg, mset, zeros]
    simp (maxSteps := 2000000) only [↓vP0, vQ0, vT0, simprocAttr, pDecC_rens]
    have hd0 : (decNew kd (zeros n) code).Ok := decNew_ok hz hcb
    have hdl : (decNew kd (zeros n) code).st.length = n := by simp [decNew, zeros]
    have hdc : (decNew kd (zeros n) code).code = code := rfl
    have hds : (decNew kd (zeros n) code).st = zeros n := rfl
    generalize hD0 : decNew kd (zeros n) code = D0 at *
    generalize hDE : decOf E code = DE at *
    have hfeed' : Feeds D0 ((List.range' 0 l.length).flatMap (evQ t dx dy ty b w' v' q l bits)) DE := by rw [← List.range_eq_range']; exact hfeed
    refine loopK_ren tyok hD (α := Nat × Dec) (fun s => s.1 ≤ l.length ∧ Of D0 s.2 ∧ Feeds s.2 ((List.range' s.1 (l.length - s.1)).flatMap (evQ t dx dy ty b w' v' q l bits)) DE) (fun s => l.length - s.1)
      (fun s => [.junk, .slice 0 0 l.length, .junk, .int .i64 b, .slice 2 0 bits.length, .ptr 9 0, .junk, .ptr 10 0, .junk, .junk, .junk, .junk, .junk, .junk, .junk, .junk, .junk, .junk, .junk, .junk, .junk, .junk, .ptr 11 0, .junk, .junk, .junk, .junk, .junk, .junk, .junk, .junk, .junk, .junk, .junk, .junk, .junk, .junk, .junk, .junk, .junk, .junk, .junk, .junk, .junk, .junk, .junk, .junk, .junk, .junk, .junk, .junk, .junk, .junk, .junk, .junk, .junk, .junk, .junk, .junk, .junk, .junk, .junk, .junk, .junk, .junk, .junk, .junk, .junk, .junk, .junk, .junk, .junk, .junk, .junk, .junk, .junk, .junk, .junk, .junk, .junk, .junk, .junk, .junk, .junk, .junk, .junk, .junk, .junk, .junk, .junk, .junk, .junk, .junk, .junk, .junk, .junk, .junk, .junk, .junk, .junk, .junk, .junk, .junk, .junk, .junk, .junk, .junk, .junk, .junk, .junk, .junk, .junk, .junk, .junk, .junk, .junk, .junk, .junk, .junk, .junk, .junk, .junk, .junk, .junk, .junk, .junk, .junk, .junk, .junk, .junk, .junk, .junk, .junk, .junk, .junk, .junk, .junk, .junk, .junk, .junk, .junk, .junk, .junk, .junk, .junk, .junk, .junk, .junk, .junk, .junk, .junk, .junk, .junk, .slice 0 0 l.length, .int .i64 l.length, .int .i64 s.1, .junk, .junk, .junk, .junk, .junk, .junk, .junk, .junk, .junk, .junk, .junk, .junk, .junk, .junk, .junk, .junk, .junk, .junk, .junk, .junk, .junk, .junk, .junk, .junk, .junk, .junk, .junk, .junk, .junk, .junk, .junk, .junk, .junk, .junk, .junk, .junk, .junk, .junk, .junk, .junk, .junk, .junk, .junk, .junk])
      (fun s => lawL l q bits ++ [optC t dx dy ty kd, bmC w' v' 1 q.length, .own (pDecC s.2 12 13) 154, .own (ints .i64 s.2.st) 3, .own (ints .u8 code) 5]) (0, D0) ⟨by omega, ⟨hd0, rfl, rfl, rfl⟩, by simpa using hfeed'⟩ ⟨[9, 10, 23, 24, 25], ?_⟩ ?_
    · simp only [leR]
      simp [ren, rens, sg, sig, okIn, okIns, exK, leK, leF, leV, matK, objM, renO, roSame, lh, born, AObj.born, AObj.live, injOk, kindOf, rens_ints, okIns_ints, List.range, List.range.loop, mrg, mset, leF, leV, leK, pDecC_rens, pDecC_okIns, pDecC_inj, boolsF_rens, boolsF_okIns, hbr, hbo, hds, zeros]
    rintro ⟨i, D⟩ ⟨hi2, hO, hfd⟩
    simp only at hi2 hO hfd
    have hDc : D.code = code := hO.2.2.2.trans hdc
    have hDl : D.st.length = n := hO.2.2.1.trans hdl
    have hsplit : i < l.length → Feeds D ((0, bit01 (bits.getD i false)) :: (mv b (refEv t dx dy ty (l.getD i bm0).1 (l.getD i bm0).2.1 (l.getD i bm0).2.2 w' v' q) ++ (List.range' (i + 1) (l.length - (i + 1))).flatMap (evQ t dx dy ty b w' v' q l bits))) DE := by
      intro h
      have e : l.length - i = (l.length - (i + 1)) + 1 := by omega
      rw [e, List.range'_succ, List.flatMap_cons] at hfd
      exact hfd
    simp (maxSteps := 2000000) only [↓vP0, vQ0, vT0, simprocAttr]
    (with_reducible first | refine condK_dec (fun h => ?_) (fun h => ?_) | refine condK_beq (fun h => ?_) (fun h => ?_) | refine condK_bne (fun h => ?_) (fun h => ?_) | refine condK_intro (fun h => ?_) (fun h => ?_))
    · have hil : i < l.length := by omega
      have hfd2 := hsplit hil
      clear hsplit hfd
      rcases (show i = 0 ∨ i = 1 ∨ i = 2 ∨ i = 3 ∨ i = 4 ∨ i = 5 by omega) with rfl | rfl | rfl | rfl | rfl | rfl
      · have g : ((bmsF 3 l).drop 0).take 3 = [.int .i64 (l.getD 0 bm0).1, .int .i64 (l.getD 0 bm0).2.1, .slice 3 0 (l.getD 0 bm0).2.2.length] := bmsF_get 3 l 0 hil
        rw [List.drop_zero] at g
        have gb := boolsF_get bits 0 (by omega)
        have hlen := bmsF_len 3 l
        obtain ⟨hbyI, hbgI⟩ := hlb 0 (by omega)
        have hT := hok 0 (by omega)
        obtain ⟨f1, f2, f3⟩ := feeds_get hfd2
        obtain ⟨D2, f4, f5⟩ := Feeds.app _ _ _ _ f3
        have hO1 := hO.after (c := 0) (by omega)
        have hD1c : (D.after 0).code = code := hO1.2.2.2.trans hdc
        have hD1l : (D.after 0).st.length = n := hO1.2.2.1.trans hdl
        obtain ⟨r1, r2, r3, r4, r5⟩ := get_back (kd := kd) hbyI ho hT hr1 (by omega) f4
        have c1 := c_pGet D hO.1 0 (by omega) (by rw [hDc]; omega)
        have c2 := c_p8Get (D.after 0) hO1.1 (by omega) (by rw [hD1c]; omega) b (by omega) t dx dy hdx hdy ty kd (l.getD 0 bm0).1 (l.getD 0 bm0).2.1 w' v' q hql hbq
        rw [f1, f2] at c1
        rw [r1, r2, r3, r4, r5] at c2
        have hO2 : Of D0 D2 := by
          rw [← r5]
          have hpx := bmB_ok hbyI hT
          have := regRun_inv (t := t) (dx := dx) (dy := dy) (base := b) (w := (l.getD 0 bm0).1) (v := (l.getD 0 bm0).2.1) (w' := w') (v' := v') (d0 := D0) (k := ((l.getD 0 bm0).1 * (l.getD 0 bm0).2.1).toNat) ho.1 hq (by omega) ty (l.getD 0 bm0).2.1.toNat 0 (D.after 0) (zeros ((l.getD 0 bm0).1 * (l.getD 0 bm0).2.1).toNat) ⟨hO1, fun z hz => by have := List.eq_of_mem_replicate hz; omega, by simp [zeros]⟩
          have hga : gAsk t dx dy kd b (l.getD 0 bm0).1 (l.getD 0 bm0).2.1 w' v' q (D.after 0) = 0 := by
            have := r1
            unfold gE at this
            split at this
            · rename_i hh; exact absurd this hh
            · omega
          have e : gD t dx dy ty kd b (l.getD 0 bm0).1 (l.getD 0 bm0).2.1 w' v' q (D.after 0) = (gRun t dx dy ty b (l.getD 0 bm0).1 (l.getD 0 bm0).2.1 w' v' q (D.after 0)).d := by rw [gD, if_neg (by rw [hga]; simp)]
          rw [e]
          have e2 : gRun t dx dy ty b (l.getD 0 bm0).1 (l.getD 0 bm0).2.1 w' v' q (D.after 0) = regRun t dx dy b (l.getD 0 bm0).1 (l.getD 0 bm0).2.1 w' v' q ty (l.getD 0 bm0).2.1.toNat 0 (D.after 0) (zeros ((l.getD 0 bm0).1 * (l.getD 0 bm0).2.1).toNat) := by simp [gRun, regGet]
          rw [e2]; exact this.1
        have hD2c : D2.code = code := hO2.2.2.2.trans hdc
        generalize D.after 0 = D1 at *
        simp (maxSteps := 2000000) only [↓vP0, vQ0, vT0, simprocAttr]
        refine chk_intro (by omega) ?_
        simp (maxSteps := 2000000) only [↓vP0, vQ0, vT0, simprocAttr, g]
        refine chk_intro (by omega) ?_
        simp (maxSteps := 2000000) only [↓vP0, vQ0, vT0, simprocAttr, g]
        refine callK_det (c1) [11, 12, 13] ?_ ?_ ?_ rfl (by simp [pDecL, pDecC_rens, pDecC_okIns, pDecC_inj, hDc]) ?_
        · simp [ren, rens, sg, sig, okIn, okIns, exK, leK, leF, leV, matK, objM, renO, roSame, lh, born, AObj.born, AObj.live, injOk, kindOf, rens_ints, okIns_ints, List.range, List.range.loop, mrg, mset, pDecL, pDecC_rens, pDecC_okIns, pDecC_inj, hDc]
        · simp [ren, rens, sg, sig, okIn, okIns, exK, leK, leF, leV, matK, objM, renO, roSame, lh, born, AObj.born, AObj.live, injOk, kindOf, rens_ints, okIns_ints, List.range, List.range.loop, mrg, mset, pDecL, pDecC_rens, pDecC_okIns, pDecC_inj, hDc]
        · simp [ren, rens, sg, sig, okIn, okIns, exK, leK, leF, leV, matK, objM, renO, roSame, lh, born, AObj.born, AObj.live, injOk, kindOf, rens_ints, okIns_ints, List.range, List.range.loop, mrg, mset, pDecL, pDecC_rens, pDecC_okIns, pDecC_inj, hDc]
        simp only [pDecL]
        simp (maxSteps := 2000000) only [↓vP0, vQ0, vT0, simprocAttr, pDecC_rens]
        refine callK_det (c2) [11, 12, 13, 1] ?_ ?_ ?_ rfl (by simp [getL, pDecL, pDecC_rens, pDecC_okIns, pDecC_inj, hD1c]) ?_
        · simp [ren, rens, sg, sig, okIn, okIns, exK, leK, leF, leV, matK, objM, renO, roSame, lh, born, AObj.born, AObj.live, injOk, kindOf, rens_ints, okIns_ints, List.range, List.range.loop, mrg, mset, getL, pDecL, pDecC_rens, pDecC_okIns, pDecC_inj, hD1c]
        · simp [ren, rens, sg, sig, okIn, okIns, exK, leK, leF, leV, matK, objM, renO, roSame, lh, born, AObj.born, AObj.live, injOk, kindOf, rens_ints, okIns_ints, List.range, List.range.loop, mrg, mset, getL, pDecL, pDecC_rens, pDecC_okIns, pDecC_inj, hD1c]
        · simp [ren, rens, sg, sig, okIn, okIns, exK, leK, leF, leV, matK, objM, renO, roSame, lh, born, AObj.born, AObj.live, injOk, kindOf, rens_ints, okIns_ints, List.range, List.range.loop, mrg, mset, getL, pDecL, pDecC_rens, pDecC_okIns, pDecC_inj, hD1c]
        simp only [getL, pDecL]
        simp (maxSteps := 2000000) only [↓vP0, vQ0, vT0, simprocAttr, pDecC_rens]
        have hbb : (bit01 (bits.getD 0 false) == 1) = bits.getD 0 false := by cases bits.getD 0 false <;> rfl
        have hbn2 : (bits.getD 0 false != bits.getD 0 false) = false := by simp
        refine chk_intro (by omega) ?_
        simp (maxSteps := 2000000) only [↓vP0, vQ0, vT0, simprocAttr, gb, hbb, hbn2]
        refine callK_read (c_SameBitmap (l.getD 0 bm0).1 (l.getD 0 bm0).2.1 (l.getD 0 bm0).1 (l.getD 0 bm0).2.1 (l.getD 0 bm0).2.2 (l.getD 0 bm0).2.2 hbgI hbgI) [15, 3] ?_ ?_ ?_ rfl ?_
        · simp [ren, rens, sg, sig, okIn, okIns, exK, leK, leF, leV, matK, objM, renO, roSame, lh, born, AObj.born, AObj.live, injOk, kindOf, rens_ints, okIns_ints, List.range, List.range.loop, mrg, mset]
        · simp [ren, rens, sg, sig, okIn, okIns, exK, leK, leF, leV, matK, objM, renO, roSame, lh, born, AObj.born, AObj.live, injOk, kindOf, rens_ints, okIns_ints, List.range, List.range.loop, mrg, mset]
        · simp [ren, rens, sg, sig, okIn, okIns, exK, leK, leF, leV, matK, objM, renO, roSame, lh, born, AObj.born, AObj.live, injOk, kindOf, rens_ints, okIns_ints, List.range, List.range.loop, mrg, mset]
        simp (maxSteps := 2000000) only [↓vP0, vQ0, vT0, simprocAttr, dT (show (l.getD 0 bm0).1 = (l.getD 0 bm0).1 ∧ (l.getD 0 bm0).2.1 = (l.getD 0 bm0).2.1 ∧ (l.getD 0 bm0).2.2 = (l.getD 0 bm0).2.2 from ⟨rfl, rfl, rfl⟩)]
        refine ⟨(1, D2), ⟨by simp only; omega, hO2, f5⟩, by simp only; omega, [9, 10, 11, 12, 13], ?_⟩
        simp only [leR]
        simp [ren, rens, sg, sig, okIn, okIns, exK, leK, leF, leV, matK, objM, renO, roSame, lh, born, AObj.born, AObj.live, injOk, kindOf, rens_ints, okIns_ints, List.range, List.range.loop, mrg, mset, leF, leV, leK, pDecC_rens, pDecC_okIns, pDecC_inj, boolsF_rens, boolsF_okIns, hbr, hbo, (show IntKind.i64.wrap 1 = 1 by decide)]
      · have g : ((bmsF 3 l).drop 3).take 3 = [.int .i64 (l.getD 1 bm0).1, .int .i64 (l.getD 1 bm0).2.1, .slice 4 0 (l.getD 1 bm0).2.2.length] := bmsF_get 3 l 1 hil
        have gb := boolsF_get bits 1 (by omega)
        have hlen := bmsF_len 3 l
        obtain ⟨hbyI, hbgI⟩ := hlb 1 (by omega)
        have hT := hok 1 (by omega)
        obtain ⟨f1, f2, f3⟩ := feeds_get hfd2
        obtain ⟨D2, f4, f5⟩ := Feeds.app _ _ _ _ f3
        have hO1 := hO.after (c := 0) (by omega)
        have hD1c : (D.after 0).code = code := hO1.2.2.2.trans hdc
        have hD1l : (D.after 0).st.length = n := hO1.2.2.1.trans hdl
        obtain ⟨r1, r2, r3, r4, r5⟩ := get_back (kd := kd) hbyI ho hT hr1 (by omega) f4
        have c1 := c_pGet D hO.1 0 (by omega) (by rw [hDc]; omega)
        have c2 := c_p8Get (D.after 0) hO1.1 (by omega) (by rw [hD1c]; omega) b (by omega) t dx dy hdx hdy ty kd (l.getD 1 bm0).1 (l.getD 1 bm0).2.1 w' v' q hql hbq
        rw [f1, f2] at c1
        rw [r1, r2, r3, r4, r5] at c2
        have hO2 : Of D0 D2 := by
          rw [← r5]
          have hpx := bmB_ok hbyI hT
          have := regRun_inv (t := t) (dx := dx) (dy := dy) (base := b) (w := (l.getD 1 bm0).1) (v := (l.getD 1 bm0).2.1) (w' := w') (v' := v') (d0 := D0) (k := ((l.getD 1 bm0).1 * (l.getD 1 bm0).2.1).toNat) ho.1 hq (by omega) ty (l.getD 1 bm0).2.1.toNat 0 (D.after 0) (zeros ((l.getD 1 bm0).1 * (l.getD 1 bm0).2.1).toNat) ⟨hO1, fun z hz => by have := List.eq_of_mem_replicate hz; omega, by simp [zeros]⟩
          have hga : gAsk t dx dy kd b (l.getD 1 bm0).1 (l.getD 1 bm0).2.1 w' v' q (D.after 0) = 0 := by
            have := r1
            unfold gE at this
            split at this
            · rename_i hh; exact absurd this hh
            · omega
          have e : gD t dx dy ty kd b (l.getD 1 bm0).1 (l.getD 1 bm0).2.1 w' v' q (D.after 0) = (gRun t dx dy ty b (l.getD 1 bm0).1 (l.getD 1 bm0).2.1 w' v' q (D.after 0)).d := by rw [gD, if_neg (by rw [hga]; simp)]
          rw [e]
          have e2 : gRun t dx dy ty b (l.getD 1 bm0).1 (l.getD 1 bm0).2.1 w' v' q (D.after 0) = regRun t dx dy b (l.getD 1 bm0).1 (l.getD 1 bm0).2.1 w' v' q ty (l.getD 1 bm0).2.1.toNat 0 (D.after 0) (zeros ((l.getD 1 bm0).1 * (l.getD 1 bm0).2.1).toNat) := by simp [gRun, regGet]
          rw [e2]; exact this.1
        have hD2c : D2.code = code := hO2.2.2.2.trans hdc
        generalize D.after 0 = D1 at *
        simp (maxSteps := 2000000) only [↓vP0, vQ0, vT0, simprocAttr]
        refine chk_intro (by omega) ?_
        simp (maxSteps := 2000000) only [↓vP0, vQ0, vT0, simprocAttr, g]
        refine chk_intro (by omega) ?_
        simp (maxSteps := 2000000) only [↓vP0, vQ0, vT0, simprocAttr, g]
        refine callK_det (c1) [11, 12, 13] ?_ ?_ ?_ rfl (by simp [pDecL, pDecC_rens, pDecC_okIns, pDecC_inj, hDc]) ?_
        · simp [ren, rens, sg, sig, okIn, okIns, exK, leK, leF, leV, matK, objM, renO, roSame, lh, born, AObj.born, AObj.live, injOk, kindOf, rens_ints, okIns_ints, List.range, List.range.loop, mrg, mset, pDecL, pDecC_rens, pDecC_okIns, pDecC_inj, hDc]
        · simp [ren, rens, sg, sig, okIn, okIns, exK, leK, leF, leV, matK, objM, renO, roSame, lh, born, AObj.born, AObj.live, injOk, kindOf, rens_ints, okIns_ints, List.range, List.range.loop, mrg, mset, pDecL, pDecC_rens, pDecC_okIns, pDecC_inj, hDc]
        · simp [ren, rens, sg, sig, okIn, okIns, exK, leK, leF, leV, matK, objM, renO, roSame, lh, born, AObj.born, AObj.live, injOk, kindOf, rens_ints, okIns_ints, List.range, List.range.loop, mrg, mset, pDecL, pDecC_rens, pDecC_okIns, pDecC_inj, hDc]
        simp only [pDecL]
        simp (maxSteps := 2000000) only [↓vP0, vQ0, vT0, simprocAttr, pDecC_rens]
        refine callK_det (c2) [11, 12, 13, 1] ?_ ?_ ?_ rfl (by simp [getL, pDecL, pDecC_rens, pDecC_okIns, pDecC_inj, hD1c]) ?_
        · simp [ren, rens, sg, sig, okIn, okIns, exK, leK, leF, leV, matK, objM, renO, roSame, lh, born, AObj.born, AObj.live, injOk, kindOf, rens_ints, okIns_ints, List.range, List.range.loop, mrg, mset, getL, pDecL, pDecC_rens, pDecC_okIns, pDecC_inj, hD1c]
        · simp [ren, rens, sg, sig, okIn, okIns, exK, leK, leF, leV, matK, objM, renO, roSame, lh, born, AObj.born, AObj.live, injOk, kindOf, rens_ints, okIns_ints, List.range, List.range.loop, mrg, mset, getL, pDecL, pDecC_rens, pDecC_okIns, pDecC_inj, hD1c]
        · simp [ren, rens, sg, sig, okIn, okIns, exK, leK, leF, leV, matK, objM, renO, roSame, lh, born, AObj.born, AObj.live, injOk, kindOf, rens_ints, okIns_ints, List.range, List.range.loop, mrg, mset, getL, pDecL, pDecC_rens, pDecC_okIns, pDecC_inj, hD1c]
        simp only [getL, pDecL]
        simp (maxSteps := 2000000) only [↓vP0, vQ0, vT0, simprocAttr, pDecC_rens]
        have hbb : (bit01 (bits.getD 1 false) == 1) = bits.getD 1 false := by cases bits.getD 1 false <;> rfl
        have hbn2 : (bits.getD 1 false != bits.getD 1 false) = false := by simp
        refine chk_intro (by omega) ?_
        simp (maxSteps := 2000000) only [↓vP0, vQ0, vT0, simprocAttr, gb, hbb, hbn2]
        refine callK_read (c_SameBitmap (l.getD 1 bm0).1 (l.getD 1 bm0).2.1 (l.getD 1 bm0).1 (l.getD 1 bm0).2.1 (l.getD 1 bm0).2.2 (l.getD 1 bm0).2.2 hbgI hbgI) [15, 4] ?_ ?_ ?_ rfl ?_
        · simp [ren, rens, sg, sig, okIn, okIns, exK, leK, leF, leV, matK, objM, renO, roSame, lh, born, AObj.born, AObj.live, injOk, kindOf, rens_ints, okIns_ints, List.range, List.range.loop, mrg, mset]
        · simp [ren, rens, sg, sig, okIn, okIns, exK, leK, leF, leV, matK, objM, renO, roSame, lh, born, AObj.born, AObj.live, injOk, kindOf, rens_ints, okIns_ints, List.range, List.range.loop, mrg, mset]
        · simp [ren, rens, sg, sig, okIn, okIns, exK, leK, leF, leV, matK, objM, renO, roSame, lh, born, AObj.born, AObj.live, injOk, kindOf, rens_ints, okIns_ints, List.range, List.range.loop, mrg, mset]
        simp (maxSteps := 2000000) only [↓vP0, vQ0, vT0, simprocAttr, dT (show (l.getD 1 bm0).1 = (l.getD 1 bm0).1 ∧ (l.getD 1 bm0).2.1 = (l.getD 1 bm0).2.1 ∧ (l.getD 1 bm0).2.2 = (l.getD 1 bm0).2.2 from ⟨rfl, rfl, rfl⟩)]
        refine ⟨(2, D2), ⟨by simp only; omega, hO2, f5⟩, by simp only; omega, [9, 10, 11, 12, 13], ?_⟩
        simp only [leR]
        simp [ren, rens, sg, sig, okIn, okIns, exK, leK, leF, leV, matK, objM, renO, roSame, lh, born, AObj.born, AObj.live, injOk, kindOf, rens_ints, okIns_ints, List.range, List.range.loop, mrg, mset, leF, leV, leK, pDecC_rens, pDecC_okIns, pDecC_inj, boolsF_rens, boolsF_okIns, hbr, hbo, (show IntKind.i64.wrap 2 = 2 by decide)]
      · have g : ((bmsF 3 l).drop 6).take 3 = [.int .i64 (l.getD 2 bm0).1, .int .i64 (l.getD 2 bm0).2.1, .slice 5 0 (l.getD 2 bm0).2.2.length] := bmsF_get 3 l 2 hil
        have gb := boolsF_get bits 2 (by omega)
        have hlen := bmsF_len 3 l
        obtain ⟨hbyI, hbgI⟩ := hlb 2 (by omega)
        have hT := hok 2 (by omega)
        obtain ⟨f1, f2, f3⟩ := feeds_get hfd2
        obtain ⟨D2, f4, f5⟩ := Feeds.app _ _ _ _ f3
        have hO1 := hO.after (c := 0) (by omega)
        have hD1c : (D.after 0).code = code := hO1.2.2.2.trans hdc
        have hD1l : (D.after 0).st.length = n := hO1.2.2.1.trans hdl
        obtain ⟨r1, r2, r3, r4, r5⟩ := get_back (kd := kd) hbyI ho hT hr1 (by omega) f4
        have c1 := c_pGet D hO.1 0 (by omega) (by rw [hDc]; omega)
        have c2 := c_p8Get (D.after 0) hO1.1 (by omega) (by rw [hD1c]; omega) b (by omega) t dx dy hdx hdy ty kd (l.getD 2 bm0).1 (l.getD 2 bm0).2.1 w' v' q hql hbq
        rw [f1, f2] at c1
        rw [r1, r2, r3, r4, r5] at c2
        have hO2 : Of D0 D2 := by
          rw [← r5]
          have hpx := bmB_ok hbyI hT
          have := regRun_inv (t := t) (dx := dx) (dy := dy) (base := b) (w := (l.getD 2 bm0).1) (v := (l.getD 2 bm0).2.1) (w' := w') (v' := v') (d0 := D0) (k := ((l.getD 2 bm0).1 * (l.getD 2 bm0).2.1).toNat) ho.1 hq (by omega) ty (l.getD 2 bm0).2.1.toNat 0 (D.after 0) (zeros ((l.getD 2 bm0).1 * (l.getD 2 bm0).2.1).toNat) ⟨hO1, fun z hz => by have := List.eq_of_mem_replicate hz; omega, by simp [zeros]⟩
          have hga : gAsk t dx dy kd b (l.getD 2 bm0).1 (l.getD 2 bm0).2.1 w' v' q (D.after 0) = 0 := by
            have := r1
            unfold gE at this
            split at this
            · rename_i hh; exact absurd this hh
            · omega
          have e : gD t dx dy ty kd b (l.getD 2 bm0).1 (l.getD 2 bm0).2.1 w' v' q (D.after 0) = (gRun t dx dy ty b (l.getD 2 bm0).1 (l.getD 2 bm0).2.1 w' v' q (D.after 0)).d := by rw [gD, if_neg (by rw [hga]; simp)]
          rw [e]
          have e2 : gRun t dx dy ty b (l.getD 2 bm0).1 (l.getD 2 bm0).2.1 w' v' q (D.after 0) = regRun t dx dy b (l.getD 2 bm0).1 (l.getD 2 bm0).2.1 w' v' q ty (l.getD 2 bm0).2.1.toNat 0 (D.after 0) (zeros ((l.getD 2 bm0).1 * (l.getD 2 bm0).2.1).toNat) := by simp [gRun, regGet]
          rw [e2]; exact this.1
        have hD2c : D2.code = code := hO2.2.2.2.trans hdc
        generalize D.after 0 = D1 at *
        simp (maxSteps := 2000000) only [↓vP0, vQ0, vT0, simprocAttr]
        refine chk_intro (by omega) ?_
        simp (maxSteps := 2000000) only [↓vP0, vQ0, vT0, simprocAttr, g]
        refine chk_intro (by omega) ?_
        simp (maxSteps := 2000000) only [↓vP0, vQ0, vT0, simprocAttr, g]
        refine callK_det (c1) [11, 12, 13] ?_ ?_ ?_ rfl (by simp [pDecL, pDecC_rens, pDecC_okIns, pDecC_inj, hDc]) ?_
        · simp [ren, rens, sg, sig, okIn, okIns, exK, leK, leF, leV, matK, objM, renO, roSame, lh, born, AObj.born, AObj.live, injOk, kindOf, rens_ints, okIns_ints, List.range, List.range.loop, mrg, mset, pDecL, pDecC_rens, pDecC_okIns, pDecC_inj, hDc]
        · simp [ren, rens, sg, sig, okIn, okIns, exK, leK, leF, leV, matK, objM, renO, roSame, lh, born, AObj.born, AObj.live, injOk, kindOf, rens_ints, okIns_ints, List.range, List.range.loop, mrg, mset, pDecL, pDecC_rens, pDecC_okIns, pDecC_inj, hDc]
        · simp [ren, rens, sg, sig, okIn, okIns, exK, leK, leF, leV, matK, objM, renO, roSame, lh, born, AObj.born, AObj.live, injOk, kindOf, rens_ints, okIns_ints, List.range, List.range.loop, mrg, mset, pDecL, pDecC_rens, pDecC_okIns, pDecC_inj, hDc]
        simp only [pDecL]
        simp (maxSteps := 2000000) only [↓vP0, vQ0, vT0, simprocAttr, pDecC_rens]
        refine callK_det (c2) [11, 12, 13, 1] ?_ ?_ ?_ rfl (by simp [getL, pDecL, pDecC_rens, pDecC_okIns, pDecC_inj, hD1c]) ?_
        · simp [ren, rens, sg, sig, okIn, okIns, exK, leK, leF, leV, matK, objM, renO, roSame, lh, born, AObj.born, AObj.live, injOk, kindOf, rens_ints, okIns_ints, List.range, List.range.loop, mrg, mset, getL, pDecL, pDecC_rens, pDecC_okIns, pDecC_inj, hD1c]
        · simp [ren, rens, sg, sig, okIn, okIns, exK, leK, leF, leV, matK, objM, renO, roSame, lh, born, AObj.born, AObj.live, injOk, kindOf, rens_ints, okIns_ints, List.range, List.range.loop, mrg, mset, getL, pDecL, pDecC_rens, pDecC_okIns, pDecC_inj, hD1c]
        · simp [ren, rens, sg, sig, okIn, okIns, exK, leK, leF, leV, matK, objM, renO, roSame, lh, born, AObj.born, AObj.live, injOk, kindOf, rens_ints, okIns_ints, List.range, List.range.loop, mrg, mset, getL, pDecL, pDecC_rens, pDecC_okIns, pDecC_inj, hD1c]
        simp only [getL, pDecL]
        simp (maxSteps := 2000000) only [↓vP0, vQ0, vT0, simprocAttr, pDecC_rens]
        have hbb : (bit01 (bits.getD 2 false) == 1) = bits.getD 2 false := by cases bits.getD 2 false <;> rfl
        have hbn2 : (bits.getD 2 false != bits.getD 2 false) = false := by simp
        refine chk_intro (by omega) ?_
        simp (maxSteps := 2000000) only [↓vP0, vQ0, vT0, simprocAttr, gb, hbb, hbn2]
        refine callK_read (c_SameBitmap (l.getD 2 bm0).1 (l.getD 2 bm0).2.1 (l.getD 2 bm0).1 (l.getD 2 bm0).2.1 (l.getD 2 bm0).2.2 (l.getD 2 bm0).2.2 hbgI hbgI) [15, 5] ?_ ?_ ?_ rfl ?_
        · simp [ren, rens, sg, sig, okIn, okIns, exK, leK, leF, leV, matK, objM, renO, roSame, lh, born, AObj.born, AObj.live, injOk, kindOf, rens_ints, okIns_ints, List.range, List.range.loop, mrg, mset]
        · simp [ren, rens, sg, sig, okIn, okIns, exK, leK, leF, leV, matK, objM, renO, roSame, lh, born, AObj.born, AObj.live, injOk, kindOf, rens_ints, okIns_ints, List.range, List.range.loop, mrg, mset]
        · simp [ren, rens, sg, sig, okIn, okIns, exK, leK, leF, leV, matK, objM, renO, roSame, lh, born, AObj.born, AObj.live, injOk, kindOf, rens_ints, okIns_ints, List.range, List.range.loop, mrg, mset]
        simp (maxSteps := 2000000) only [↓vP0, vQ0, vT0, simprocAttr, dT (show (l.getD 2 bm0).1 = (l.getD 2 bm0).1 ∧ (l.getD 2 bm0).2.1 = (l.getD 2 bm0).2.1 ∧ (l.getD 2 bm0).2.2 = (l.getD 2 bm0).2.2 from ⟨rfl, rfl, rfl⟩)]
        refine ⟨(3, D2), ⟨by simp only; omega, hO2, f5⟩, by simp only; omega, [9, 10, 11, 12, 13], ?_⟩
        simp only [leR]
        simp [ren, rens, sg, sig, okIn, okIns, exK, leK, leF, leV, matK, objM, renO, roSame, lh, born, AObj.born, AObj.live, injOk, kindOf, rens_ints, okIns_ints, List.range, List.range.loop, mrg, mset, leF, leV, leK, pDecC_rens, pDecC_okIns, pDecC_inj, boolsF_rens, boolsF_okIns, hbr, hbo, (show IntKind.i64.wrap 3 = 3 by decide)]
      · have g : ((bmsF 3 l).drop 9).take 3 = [.int .i64 (l.getD 3 bm0).1, .int .i64 (l.getD 3 bm0).2.1, .slice 6 0 (l.getD 3 bm0).2.2.length] := bmsF_get 3 l 3 hil
        have gb := boolsF_get bits 3 (by omega)
        have hlen := bmsF_len 3 l
        obtain ⟨hbyI, hbgI⟩ := hlb 3 (by omega)
        have hT := hok 3 (by omega)
        obtain ⟨f1, f2, f3⟩ := feeds_get hfd2
        obtain ⟨D2, f4, f5⟩ := Feeds.app _ _ _ _ f3
        have hO1 := hO.after (c := 0) (by omega)
        have hD1c : (D.after 0).code = code := hO1.2.2.2.trans hdc
        have hD1l : (D.after 0).st.length = n := hO1.2.2.1.trans hdl
        obtain ⟨r1, r2, r3, r4, r5⟩ := get_back (kd := kd) hbyI ho hT hr1 (by omega) f4
        have c1 := c_pGet D hO.1 0 (by omega) (by rw [hDc]; omega)
        have c2 := c_p8Get (D.after 0) hO1.1 (by omega) (by rw [hD1c]; omega) b (by omega) t dx dy hdx hdy ty kd (l.getD 3 bm0).1 (l.getD 3 bm0).2.1 w' v' q hql hbq
        rw [f1, f2] at c1
        rw [r1, r2, r3, r4, r5] at c2
        have hO2 : Of D0 D2 := by
          rw [← r5]
          have hpx := bmB_ok hbyI hT
          have := regRun_inv (t := t) (dx := dx) (dy := dy) (base := b) (w := (l.getD 3 bm0).1) (v := (l.getD 3 bm0).2.1) (w' := w') (v' := v') (d0 := D0) (k := ((l.getD 3 bm0).1 * (l.getD 3 bm0).2.1).toNat) ho.1 hq (by omega) ty (l.getD 3 bm0).2.1.toNat 0 (D.after 0) (zeros ((l.getD 3 bm0).1 * (l.getD 3 bm0).2.1).toNat) ⟨hO1, fun z hz => by have := List.eq_of_mem_replicate hz; omega, by simp [zeros]⟩
          have hga : gAsk t dx dy kd b (l.getD 3 bm0).1 (l.getD 3 bm0).2.1 w' v' q (D.after 0) = 0 := by
            have := r1
            unfold gE at this
            split at this
            · rename_i hh; exact absurd this hh
            · omega
          have e : gD t dx dy ty kd b (l.getD 3 bm0).1 (l.getD 3 bm0).2.1 w' v' q (D.after 0) = (gRun t dx dy ty b (l.getD 3 bm0).1 (l.getD 3 bm0).2.1 w' v' q (D.after 0)).d := by rw [gD, if_neg (by rw [hga]; simp)]
          rw [e]
          have e2 : gRun t dx dy ty b (l.getD 3 bm0).1 (l.getD 3 bm0).2.1 w' v' q (D.after 0) = regRun t dx dy b (l.getD 3 bm0).1 (l.getD 3 bm0).2.1 w' v' q ty (l.getD 3 bm0).2.1.toNat 0 (D.after 0) (zeros ((l.getD 3 bm0).1 * (l.getD 3 bm0).2.1).toNat) := by simp [gRun, regGet]
          rw [e2]; exact this.1
        have hD2c : D2.code = code := hO2.2.2.2.trans hdc
        generalize D.after 0 = D1 at *
        simp (maxSteps := 2000000) only [↓vP0, vQ0, vT0, simprocAttr]
        refine chk_intro (by omega) ?_
        simp (maxSteps := 2000000) only [↓vP0, vQ0, vT0, simprocAttr, g]
        refine chk_intro (by omega) ?_
        simp (maxSteps := 2000000) only [↓vP0, vQ0, vT0, simprocAttr, g]
        refine callK_det (c1) [11, 12, 13] ?_ ?_ ?_ rfl (by simp [pDecL, pDecC_rens, pDecC_okIns, pDecC_inj, hDc]) ?_
        · simp [ren, rens, sg, sig, okIn, okIns, exK, leK, leF, leV, matK, objM, renO, roSame, lh, born, AObj.born, AObj.live, injOk, kindOf, rens_ints, okIns_ints, List.range, List.range.loop, mrg, mset, pDecL, pDecC_rens, pDecC_okIns, pDecC_inj, hDc]
        · simp [ren, rens, sg, sig, okIn, okIns, exK, leK, leF, leV, matK, objM, renO, roSame, lh, born, AObj.born, AObj.live, injOk, kindOf, rens_ints, okIns_ints, List.range, List.range.loop, mrg, mset, pDecL, pDecC_rens, pDecC_okIns, pDecC_inj, hDc]
        · simp [ren, rens, sg, sig, okIn, okIns, exK, leK, leF, leV, matK, objM, renO, roSame, lh, born, AObj.born, AObj.live, injOk, kindOf, rens_ints, okIns_ints, List.range, List.range.loop, mrg, mset, pDecL, pDecC_rens, pDecC_okIns, pDecC_inj, hDc]
        simp only [pDecL]
        simp (maxSteps := 2000000) only [↓vP0, vQ0, vT0, simprocAttr, pDecC_rens]
        refine callK_det (c2) [11, 12, 13, 1] ?_ ?_ ?_ rfl (by simp [getL, pDecL, pDecC_rens, pDecC_okIns, pDecC_inj, hD1c]) ?_
        · simp [ren, rens, sg, sig, okIn, okIns, exK, leK, leF, leV, matK, objM, renO, roSame, lh, born, AObj.born, AObj.live, injOk, kindOf, rens_ints, okIns_ints, List.range, List.range.loop, mrg, mset, getL, pDecL, pDecC_rens, pDecC_okIns, pDecC_inj, hD1c]
        · simp [ren, rens, sg, sig, okIn, okIns, exK, leK, leF, leV, matK, objM, renO, roSame, lh, born, AObj.born, AObj.live, injOk, kindOf, rens_ints, okIns_ints, List.range, List.range.loop, mrg, mset, getL, pDecL, pDecC_rens, pDecC_okIns, pDecC_inj, hD1c]
        · simp [ren, rens, sg, sig, okIn, okIns, exK, leK, leF, leV, matK, objM, renO, roSame, lh, born, AObj.born, AObj.live, injOk, kindOf, rens_ints, okIns_ints, List.range, List.range.loop, mrg, mset, getL, pDecL, pDecC_rens, pDecC_okIns, pDecC_inj, hD1c]
        simp only [getL, pDecL]
        simp (maxSteps := 2000000) only [↓vP0, vQ0, vT0, simprocAttr, pDecC_rens]
        have hbb : (bit01 (bits.getD 3 false) == 1) = bits.getD 3 false := by cases bits.getD 3 false <;> rfl
        have hbn2 : (bits.getD 3 false != bits.getD 3 false) = false := by simp
        refine chk_intro (by omega) ?_
        simp (maxSteps := 2000000) only [↓vP0, vQ0, vT0, simprocAttr, gb, hbb, hbn2]
        refine callK_read (c_SameBitmap (l.getD 3 bm0).1 (l.getD 3 bm0).2.1 (l.getD 3 bm0).1 (l.getD 3 bm0).2.1 (l.getD 3 bm0).2.2 (l.getD 3 bm0).2.2 hbgI hbgI) [15, 6] ?_ ?_ ?_ rfl ?_
        · simp [ren, rens, sg, sig, okIn, okIns, exK, leK, leF, leV, matK, objM, renO, roSame, lh, born, AObj.born, AObj.live, injOk, kindOf, rens_ints, okIns_ints, List.range, List.range.loop, mrg, mset]
        · simp [ren, rens, sg, sig, okIn, okIns, exK, leK, leF, leV, matK, objM, renO, roSame, lh, born, AObj.born, AObj.live, injOk, kindOf, rens_ints, okIns_ints, List.range, List.range.loop, mrg, mset]
        · simp [ren, rens, sg, sig, okIn, okIns, exK, leK, leF, leV, matK, objM, renO, roSame, lh, born, AObj.born, AObj.live, injOk, kindOf, rens_ints, okIns_ints, List.range, List.range.loop, mrg, mset]
        simp (maxSteps := 2000000) only [↓vP0, vQ0, vT0, simprocAttr, dT (show (l.getD 3 bm0).1 = (l.getD 3 bm0).1 ∧ (l.getD 3 bm0).2.1 = (l.getD 3 bm0).2.1 ∧ (l.getD 3 bm0).2.2 = (l.getD 3 bm0).2.2 from ⟨rfl, rfl, rfl⟩)]
        refine ⟨(4, D2), ⟨by simp only; omega, hO2, f5⟩, by simp only; omega, [9, 10, 11, 12, 13], ?_⟩
        simp only [leR]
        simp [ren, rens, sg, sig, okIn, okIns, exK, leK, leF, leV, matK, objM, renO, roSame, lh, born, AObj.born, AObj.live, injOk, kindOf, rens_ints, okIns_ints, List.range, List.range.loop, mrg, mset, leF, leV, leK, pDecC_rens, pDecC_okIns, pDecC_inj, boolsF_rens, boolsF_okIns, hbr, hbo, (show IntKind.i64.wrap 4 = 4 by decide)]
      · have g : ((bmsF 3 l).drop 12).take 3 = [.int .i64 (l.getD 4 bm0).1, .int .i64 (l.getD 4 bm0).2.1, .slice 7 0 (l.getD 4 bm0).2.2.length] := bmsF_get 3 l 4 hil
        have gb := boolsF_get bits 4 (by omega)
        have hlen := bmsF_len 3 l
        obtain ⟨hbyI, hbgI⟩ := hlb 4 (by omega)
        have hT := hok 4 (by omega)
        obtain ⟨f1, f2, f3⟩ := feeds_get hfd2
        obtain ⟨D2, f4, f5⟩ := Feeds.app _ _ _ _ f3
        have hO1 := hO.after (c := 0) (by omega)
        have hD1c : (D.after 0).code = code := hO1.2.2.2.trans hdc
        have hD1l : (D.after 0).st.length = n := hO1.2.2.1.trans hdl
        obtain ⟨r1, r2, r3, r4, r5⟩ := get_back (kd := kd) hbyI ho hT hr1 (by omega) f4
        have c1 := c_pGet D hO.1 0 (by omega) (by rw [hDc]; omega)
        have c2 := c_p8Get (D.after 0) hO1.1 (by omega) (by rw [hD1c]; omega) b (by omega) t dx dy hdx hdy ty kd (l.getD 4 bm0).1 (l.getD 4 bm0).2.1 w' v' q hql hbq
        rw [f1, f2] at c1
        rw [r1, r2, r3, r4, r5] at c2
        have hO2 : Of D0 D2 := by
          rw [← r5]
          have hpx := bmB_ok hbyI hT
          have := regRun_inv (t := t) (dx := dx) (dy := dy) (base := b) (w := (l.getD 4 bm0).1) (v := (l.getD 4 bm0).2.1) (w' := w') (v' := v') (d0 := D0) (k := ((l.getD 4 bm0).1 * (l.getD 4 bm0).2.1).toNat) ho.1 hq (by omega) ty (l.getD 4 bm0).2.1.toNat 0 (D.after 0) (zeros ((l.getD 4 bm0).1 * (l.getD 4 bm0).2.1).toNat) ⟨hO1, fun z hz => by have := List.eq_of_mem_replicate hz; omega, by simp [zeros]⟩
          have hga : gAsk t dx dy kd b (l.getD 4 bm0).1 (l.getD 4 bm0).2.1 w' v' q (D.after 0) = 0 := by
            have := r1
            unfold gE at this
            split at this
            · rename_i hh; exact absurd this hh
            · omega
          have e : gD t dx dy ty kd b (l.getD 4 bm0).1 (l.getD 4 bm0).2.1 w' v' q (D.after 0) = (gRun t dx dy ty b (l.getD 4 bm0).1 (l.getD 4 bm0).2.1 w' v' q (D.after 0)).d := by rw [gD, if_neg (by rw [hga]; simp)]
          rw [e]
          have e2 : gRun t dx dy ty b (l.getD 4 bm0).1 (l.getD 4 bm0).2.1 w' v' q (D.after 0) = regRun t dx dy b (l.getD 4 bm0).1 (l.getD 4 bm0).2.1 w' v' q ty (l.getD 4 bm0).2.1.toNat 0 (D.after 0) (zeros ((l.getD 4 bm0).1 * (l.getD 4 bm0).2.1).toNat) := by simp [gRun, regGet]
          rw [e2]; exact this.1
        have hD2c : D2.code = code := hO2.2.2.2.trans hdc
        generalize D.after 0 = D1 at *
        simp (maxSteps := 2000000) only [↓vP0, vQ0, vT0, simprocAttr]
        refine chk_intro (by omega) ?_
        simp (maxSteps := 2000000) only [↓vP0, vQ0, vT0, simprocAttr, g]
        refine chk_intro (by omega) ?_
        simp (maxSteps := 2000000) only [↓vP0, vQ0, vT0, simprocAttr, g]
        refine callK_det (c1) [11, 12, 13] ?_ ?_ ?_ rfl (by simp [pDecL, pDecC_rens, pDecC_okIns, pDecC_inj, hDc]) ?_
        · simp [ren, rens, sg, sig, okIn, okIns, exK, leK, leF, leV, matK, objM, renO, roSame, lh, born, AObj.born, AObj.live, injOk, kindOf, rens_ints, okIns_ints, List.range, List.range.loop, mrg, mset, pDecL, pDecC_rens, pDecC_okIns, pDecC_inj, hDc]
        · simp [ren, rens, sg, sig, okIn, okIns, exK, leK, leF, leV, matK, objM, renO, roSame, lh, born, AObj.born, AObj.live, injOk, kindOf, rens_ints, okIns_ints, List.range, List.range.loop, mrg, mset, pDecL, pDecC_rens, pDecC_okIns, pDecC_inj, hDc]
        · simp [ren, rens, sg, sig, okIn, okIns, exK, leK, leF, leV, matK, objM, renO, roSame, lh, born, AObj.born, AObj.live, injOk, kindOf, rens_ints, okIns_ints, List.range, List.range.loop, mrg, mset, pDecL, pDecC_rens, pDecC_okIns, pDecC_inj, hDc]
        simp only [pDecL]
        simp (maxSteps := 2000000) only [↓vP0, vQ0, vT0, simprocAttr, pDecC_rens]
        refine callK_det (c2) [11, 12, 13, 1] ?_ ?_ ?_ rfl (by simp [getL, pDecL, pDecC_rens, pDecC_okIns, pDecC_inj, hD1c]) ?_
        · simp [ren, rens, sg, sig, okIn, okIns, exK, leK, leF, leV, matK, objM, renO, roSame, lh, born, AObj.born, AObj.live, injOk, kindOf, rens_ints, okIns_ints, List.range, List.range.loop, mrg, mset, getL, pDecL, pDecC_rens, pDecC_okIns, pDecC_inj, hD1c]
        · simp [ren, rens, sg, sig, okIn, okIns, exK, leK, leF, leV, matK, objM, renO, roSame, lh, born, AObj.born, AObj.live, injOk, kindOf, rens_ints, okIns_ints, List.range, List.range.loop, mrg, mset, getL, pDecL, pDecC_rens, pDecC_okIns, pDecC_inj, hD1c]
        · simp [ren, rens, sg, sig, okIn, okIns, exK, leK, leF, leV, matK, objM, renO, roSame, lh, born, AObj.born, AObj.live, injOk, kindOf, rens_ints, okIns_ints, List.range, List.range.loop, mrg, mset, getL, pDecL, pDecC_rens, pDecC_okIns, pDecC_inj, hD1c]
        simp only [getL, pDecL]
        simp (maxSteps := 2000000) only [↓vP0, vQ0, vT0, simprocAttr, pDecC_rens]
        have hbb : (bit01 (bits.getD 4 false) == 1) = bits.getD 4 false := by cases bits.getD 4 false <;> rfl
        have hbn2 : (bits.getD 4 false != bits.getD 4 false) = false := by simp
        refine chk_intro (by omega) ?_
        simp (maxSteps := 2000000) only [↓vP0, vQ0, vT0, simprocAttr, gb, hbb, hbn2]
        refine callK_read (c_SameBitmap (l.getD 4 bm0).1 (l.getD 4 bm0).2.1 (l.getD 4 bm0).1 (l.getD 4 bm0).2.1 (l.getD 4 bm0).2.2 (l.getD 4 bm0).2.2 hbgI hbgI) [15, 7] ?_ ?_ ?_ rfl ?_
        · simp [ren, rens, sg, sig, okIn, okIns, exK, leK, leF, leV, matK, objM, renO, roSame, lh, born, AObj.born, AObj.live, injOk, kindOf, rens_ints, okIns_ints, List.range, List.range.loop, mrg, mset]
        · simp [ren, rens, sg, sig, okIn, okIns, exK, leK, leF, leV, matK, objM, renO, roSame, lh, born, AObj.born, AObj.live, injOk, kindOf, rens_ints, okIns_ints, List.range, List.range.loop, mrg, mset]
        · simp [ren, rens, sg, sig, okIn, okIns, exK, leK, leF, leV, matK, objM, renO, roSame, lh, born, AObj.born, AObj.live, injOk, kindOf, rens_ints, okIns_ints, List.range, List.range.loop, mrg, mset]
        simp (maxSteps := 2000000) only [↓vP0, vQ0, vT0, simprocAttr, dT (show (l.getD 4 bm0).1 = (l.getD 4 bm0).1 ∧ (l.getD 4 bm0).2.1 = (l.getD 4 bm0).2.1 ∧ (l.getD 4 bm0).2.2 = (l.getD 4 bm0).2.2 from ⟨rfl, rfl, rfl⟩)]
        refine ⟨(5, D2), ⟨by simp only; omega, hO2, f5⟩, by simp only; omega, [9, 10, 11, 12, 13], ?_⟩
        simp only [leR]
        simp [ren, rens, sg, sig, okIn, okIns, exK, leK, leF, leV, matK, objM, renO, roSame, lh, born, AObj.born, AObj.live, injOk, kindOf, rens_ints, okIns_ints, List.range, List.range.loop, mrg, mset, leF, leV, leK, pDecC_rens, pDecC_okIns, pDecC_inj, boolsF_rens, boolsF_okIns, hbr, hbo, (show IntKind.i64.wrap 5 = 5 by decide)]
      · have g : ((bmsF 3 l).drop 15).take 3 = [.int .i64 (l.getD 5 bm0).1, .int .i64 (l.getD 5 bm0).2.1, .slice 8 0 (l.getD 5 bm0).2.2.length] := bmsF_get 3 l 5 hil
        have gb := boolsF_get bits 5 (by omega)
        have hlen := bmsF_len 3 l
        obtain ⟨hbyI, hbgI⟩ := hlb 5 (by omega)
        have hT := hok 5 (by omega)
        obtain ⟨f1, f2, f3⟩ := feeds_get hfd2
        obtain ⟨D2, f4, f5⟩ := Feeds.app _ _ _ _ f3
        have hO1 := hO.after (c := 0) (by omega)
        have hD1c : (D.after 0).code = code := hO1.2.2.2.trans hdc
        have hD1l : (D.after 0).st.length = n := hO1.2.2.1.trans hdl
        obtain ⟨r1, r2, r3, r4, r5⟩ := get_back (kd := kd) hbyI ho hT hr1 (by omega) f4
        have c1 := c_pGet D hO.1 0 (by omega) (by rw [hDc]; omega)
        have c2 := c_p8Get (D.after 0) hO1.1 (by omega) (by rw [hD1c]; omega) b (by omega) t dx dy hdx hdy ty kd (l.getD 5 bm0).1 (l.getD 5 bm0).2.1 w' v' q hql hbq
        rw [f1, f2] at c1
        rw [r1, r2, r3, r4, r5] at c2
        have hO2 : Of D0 D2 := by
          rw [← r5]
          have hpx := bmB_ok hbyI hT
          have := regRun_inv (t := t) (dx := dx) (dy := dy) (base := b) (w := (l.getD 5 bm0).1) (v := (l.getD 5 bm0).2.1) (w' := w') (v' := v') (d0 := D0) (k := ((l.getD 5 bm0).1 * (l.getD 5 bm0).2.1).toNat) ho.1 hq (by omega) ty (l.getD 5 bm0).2.1.toNat 0 (D.after 0) (zeros ((l.getD 5 bm0).1 * (l.getD 5 bm0).2.1).toNat) ⟨hO1, fun z hz => by have := List.eq_of_mem_replicate hz; omega, by simp [zeros]⟩
          have hga : gAsk t dx dy kd b (l.getD 5 bm0).1 (l.getD 5 bm0).2.1 w' v' q (D.after 0) = 0 := by
            have := r1
            unfold gE at this
            split at this
            · rename_i hh; exact absurd this hh
            · omega
          have e : gD t dx dy ty kd b (l.getD 5 bm0).1 (l.getD 5 bm0).2.1 w' v' q (D.after 0) = (gRun t dx dy ty b (l.getD 5 bm0).1 (l.getD 5 bm0).2.1 w' v' q (D.after 0)).d := by rw [gD, if_neg (by rw [hga]; simp)]
          rw [e]
          have e2 : gRun t dx dy ty b (l.getD 5 bm0).1 (l.getD 5 bm0).2.1 w' v' q (D.after 0) = regRun t dx dy b (l.getD 5 bm0).1 (l.getD 5 bm0).2.1 w' v' q ty (l.getD 5 bm0).2.1.toNat 0 (D.after 0) (zeros ((l.getD 5 bm0).1 * (l.getD 5 bm0).2.1).toNat) := by simp [gRun, regGet]
          rw [e2]; exact this.1
        have hD2c : D2.code = code := hO2.2.2.2.trans hdc
        generalize D.after 0 = D1 at *
        simp (maxSteps := 2000000) only [↓vP0, vQ0, vT0, simprocAttr]
        refine chk_intro (by omega) ?_
        simp (maxSteps := 2000000) only [↓vP0, vQ0, vT0, simprocAttr, g]
        refine chk_intro (by omega) ?_
        simp (maxSteps := 2000000) only [↓vP0, vQ0, vT0, simprocAttr, g]
        refine callK_det (c1) [11, 12, 13] ?_ ?_ ?_ rfl (by simp [pDecL, pDecC_rens, pDecC_okIns, pDecC_inj, hDc]) ?_
        · simp [ren, rens, sg, sig, okIn, okIns, exK, leK, leF, leV, matK, objM, renO, roSame, lh, born, AObj.born, AObj.live, injOk, kindOf, rens_ints, okIns_ints, List.range, List.range.loop, mrg, mset, pDecL, pDecC_rens, pDecC_okIns, pDecC_inj, hDc]
        · simp [ren, rens, sg, sig, okIn, okIns, exK, leK, leF, leV, matK, objM, renO, roSame, lh, born, AObj.born, AObj.live, injOk, kindOf, rens_ints, okIns_ints, List.range, List.range.loop, mrg, mset, pDecL, pDecC_rens, pDecC_okIns, pDecC_inj, hDc]
        · simp [ren, rens, sg, sig, okIn, okIns, exK, leK, leF, leV, matK, objM, renO, roSame, lh, born, AObj.born, AObj.live, injOk, kindOf, rens_ints, okIns_ints, List.range, List.range.loop, mrg, mset, pDecL, pDecC_rens, pDecC_okIns, pDecC_inj, hDc]
        simp only [pDecL]
        simp (maxSteps := 2000000) only [↓vP0, vQ0, vT0, simprocAttr, pDecC_rens]
        refine callK_det (c2) [11, 12, 13, 1] ?_ ?_ ?_ rfl (by simp [getL, pDecL, pDecC_rens, pDecC_okIns, pDecC_inj, hD1c]) ?_
        · simp [ren, rens, sg, sig, okIn, okIns, exK, leK, leF, leV, matK, objM, renO, roSame, lh, born, AObj.born, AObj.live, injOk, kindOf, rens_ints, okIns_ints, List.range, List.range.loop, mrg, mset, getL, pDecL, pDecC_rens, pDecC_okIns, pDecC_inj, hD1c]
        · simp [ren, rens, sg, sig, okIn, okIns, exK, leK, leF, leV, matK, objM, renO, roSame, lh, born, AObj.born, AObj.live, injOk, kindOf, rens_ints, okIns_ints, List.range, List.range.loop, mrg, mset, getL, pDecL, pDecC_rens, pDecC_okIns, pDecC_inj, hD1c]
        · simp [ren, rens, sg, sig, okIn, okIns, exK, leK, leF, leV, matK, objM, renO, roSame, lh, born, AObj.born, AObj.live, injOk, kindOf, rens_ints, okIns_ints, List.range, List.range.loop, mrg, mset, getL, pDecL, pDecC_rens, pDecC_okIns, pDecC_inj, hD1c]
        simp only [getL, pDecL]
        simp (maxSteps := 2000000) only [↓vP0, vQ0, vT0, simprocAttr, pDecC_rens]
        have hbb : (bit01 (bits.getD 5 false) == 1) = bits.getD 5 false := by cases bits.getD 5 false <;> rfl
        have hbn2 : (bits.getD 5 false != bits.getD 5 false) = false := by simp
        refine chk_intro (by omega) ?_
        simp (maxSteps := 2000000) only [↓vP0, vQ0, vT0, simprocAttr, gb, hbb, hbn2]
        refine callK_read (c_SameBitmap (l.getD 5 bm0).1 (l.getD 5 bm0).2.1 (l.getD 5 bm0).1 (l.getD 5 bm0).2.1 (l.getD 5 bm0).2.2 (l.getD 5 bm0).2.2 hbgI hbgI) [15, 8] ?_ ?_ ?_ rfl ?_
        · simp [ren, rens, sg, sig, okIn, okIns, exK, leK, leF, leV, matK, objM, renO, roSame, lh, born, AObj.born, AObj.live, injOk, kindOf, rens_ints, okIns_ints, List.range, List.range.loop, mrg, mset]
        · simp [ren, rens, sg, sig, okIn, okIns, exK, leK, leF, leV, matK, objM, renO, roSame, lh, born, AObj.born, AObj.live, injOk, kindOf, rens_ints, okIns_ints, List.range, List.range.loop, mrg, mset]
        · simp [ren, rens, sg, sig, okIn, okIns, exK, leK, leF, leV, matK, objM, renO, roSame, lh, born, AObj.born, AObj.live, injOk, kindOf, rens_ints, okIns_ints, List.range, List.range.loop, mrg, mset]
        simp (maxSteps := 2000000) only [↓vP0, vQ0, vT0, simprocAttr, dT (show (l.getD 5 bm0).1 = (l.getD 5 bm0).1 ∧ (l.getD 5 bm0).2.1 = (l.getD 5 bm0).2.1 ∧ (l.getD 5 bm0).2.2 = (l.getD 5 bm0).2.2 from ⟨rfl, rfl, rfl⟩)]
        refine ⟨(6, D2), ⟨by simp only; omega, hO2, f5⟩, by simp only; omega, [9, 10, 11, 12, 13], ?_⟩
        simp only [leR]
        simp [ren, rens, sg, sig, okIn, okIns, exK, leK, leF, leV, matK, objM, renO, roSame, lh, born, AObj.born, AObj.live, injOk, kindOf, rens_ints, okIns_ints, List.range, List.range.loop, mrg, mset, leF, leV, leK, pDecC_rens, pDecC_okIns, pDecC_inj, boolsF_rens, boolsF_okIns, hbr, hbo, (show IntKind.i64.wrap 6 = 6 by decide)]
    · simp (maxSteps := 2000000) only [↓vP0, vQ0, vT0, simprocAttr]
      refine callK_pure (c_Awake) rfl rfl ?_
      simp (maxSteps := 2000000) only [↓vP0, vQ0, vT0, simprocAttr]
      exact exit_keep (L1 := lawL l q bits) ⟨rfl, rfl⟩ trivial hkeep
end Go.Proofs.Ytbfefpkhalegmaa

set_option linter.unusedVariables false
set_option linter.unusedSimpArgs false
namespace Go.Proofs.Ytbfefpkhalegmaa
open Go Go.RowKit Go.ChangeShapes Go.WideShapes
set_option maxRecDepth 100000

theorem cell_spot {W : World} {b o : Nat} {sp : Option Nat} {v : Value} (h : W.cell? ((⟨b, o, sp⟩ : Addr).add 0) = some v) : sp = none := by
  simpa [Addr.add] using World.cell?_spot h

theorem row_bools {W : World} {H : Type} {enc : TypeId × Value → H} {P : Program} {fuel : Nat} {t e : TypeId} {c : Value} {x : DataW H × List MemPlace} (ht : P.underlying t = some (.slice e)) (he : P.underlying e = some .bool) (hc : P.cellsOf e = 1)
    (h : DataW.trod enc P W 0 (fun _ => true) true fuel t [c] = some x) (ty : TypeId) : ∃ (y : RoArg) (l : List Bool) (a : Option Addr) (cap : Nat), c = .slice a l.length cap ∧ y.cs = boolsF l ∧ y.e = ty ∧ l.length ≤ maxLen ∧
    (∀ B ρ, CRel B ρ y.cs (fun j => W.cell? ⟨y.blk, y.base + j, none⟩)) ∧ ∀ (B : Nat → Prop) (ρ : Nat → Pl) (i : Nat), B i → ρ i = ⟨y.blk, y.base, false, 0, 0⟩ → VRel B ρ (.slice i 0 l.length) c := by
  rcases Deep.open_slice1 ht hc h with ⟨hcs, _⟩ | ⟨a, len, cap, m, n, V, D, Pl', hcs, _, hl, hm, hmm, _, hx⟩
  · obtain rfl : c = .slice none 0 0 := by simpa using hcs
    exact ⟨⟨[], ty, 0, 0⟩, [], none, 0, rfl, rfl, rfl, by simp, fun B ρ j v hv => by simp at hv, fun B ρ i hb _ => .slice0 i 0 none hb⟩
  · obtain rfl : c = .slice (some a) len cap := by simpa using hcs
    simp only [if_true] at hmm
    subst hmm
    by_cases h0 : m = 0
    · have hl0 : len = 0 := by omega
      subst h0 hl0
      exact ⟨⟨[], ty, 0, 0⟩, [], some a, 0, rfl, rfl, rfl, by simp, fun B ρ j v hv => by simp at hv, fun B ρ i hb _ => .slice0 i 0 (some a) hb⟩
    · obtain ⟨b, o, sp⟩ := a
      have hsp := cell_spot (hx 0 (by omega)).1
      subst hsp
      have each : ∀ i, ∃ q : Bool, i < m → V i = .bool q := by
        intro i
        by_cases hi : i < m
        · obtain ⟨q, hq, _⟩ := DataW.trod_bool he (hx i hi).2
          exact ⟨q, fun _ => by simpa using hq⟩
        · exact ⟨false, fun h => absurd h hi⟩
      let q := fun i => Classical.choose (each i)
      have hq : ∀ i, i < m → V i = .bool (q i) := fun i => Classical.choose_spec (each i)
      have hlen : ((List.range len).map q).length = len := by simp
      refine ⟨⟨boolsF ((List.range len).map q), ty, b, o⟩, (List.range len).map q, some ⟨b, o, none⟩, m, by rw [hlen], rfl, rfl, by rw [hlen]; omega, fun B ρ j v hv => ?_, fun B ρ i hb hp => ?_⟩
      · have hjl := (List.getElem?_eq_some_iff.1 hv).1
        rw [boolsF_len, hlen] at hjl
        have hg := boolsF_get ((List.range len).map q) j (by rw [hlen]; exact hjl)
        rw [hg] at hv
        injection hv with hv
        subst hv
        have hgd : ((List.range len).map q).getD j false = q j := by simp [List.getD_eq_getElem?_getD, hjl]
        rw [hgd]
        have h1 := (hx j (by omega)).1
        rw [addr_add, hq j (by omega)] at h1
        exact ⟨_, h1, .bool _⟩
      · rw [hlen]
        have := VRel.slice (B := B) (ρ := ρ) i 0 len m hb hl (fun h => by rw [hp] at h; cases h)
        rw [hp] at this
        exact this

/-- A slice of bitmaps that came in: where its rows lie. -/
structure BmRow (W : World) (l : List Bm) (a : Option Addr) (cap : Nat) where
  A : Nat → Option Addr
  Ln : Nat → Nat
  Cp : Nat → Nat
  Z : Nat → List Int
  row : ∀ i, i < l.length → IsRow .u8 W (A i) (Ln i) (Cp i) (Z i)
  pix : ∀ i, i < l.length → (l.getD i bm0).2.2 = (Z i).take (Ln i)
  lc : l.length ≤ cap
  at_ : cap = 0 ∨ ∃ b o, a = some ⟨b, o, none⟩ ∧ ∀ i, i < l.length → W.cell? ⟨b, o + i * 3, none⟩ = some (.int .i64 (l.getD i bm0).1) ∧ W.cell? ⟨b, o + (i * 3 + 1), none⟩ = some (.int .i64 (l.getD i bm0).2.1) ∧
    W.cell? ⟨b, o + (i * 3 + 2), none⟩ = some (.slice (A i) (Ln i) (Cp i))

theorem row_bitmaps {W : World} {H : Type} {enc : TypeId × Value → H} {fuel : Nat} {c : Value} {x : DataW H × List MemPlace}
    (h : DataW.trod enc Try.prog W 0 (fun _ => true) true fuel 56 [c] = some x) : ∃ (l : List Bm) (a : Option Addr) (cap : Nat), c = .slice a l.length cap ∧ l.length ≤ cap ∧ cap ≤ maxLen ∧ Nonempty (BmRow W l a cap) := by
  rcases Deep.open_slice Try.underlying56 h with ⟨hcs, _⟩ | ⟨a, len, cap, m, n, D, Pl', hcs, _, hl, hm, hmm, _, hx⟩
  · obtain rfl : c = .slice none 0 0 := by simpa using hcs
    exact ⟨[], none, 0, rfl, by simp, by simp, ⟨⟨fun _ => none, fun _ => 0, fun _ => 0, fun _ => [], fun i hi => by simp at hi, fun i hi => by simp at hi, by simp, .inl rfl⟩⟩⟩
  · obtain rfl : c = .slice (some a) len cap := by simpa using hcs
    simp only [if_true] at hmm
    subst hmm
    by_cases h0 : m = 0
    · have hl0 : len = 0 := by omega
      subst h0 hl0
      exact ⟨[], some a, 0, rfl, by simp, hm, ⟨⟨fun _ => none, fun _ => 0, fun _ => 0, fun _ => [], fun i hi => by simp at hi, fun i hi => by simp at hi, by simp, .inl rfl⟩⟩⟩
    have hC : Try.prog.cellsOf 48 = 3 := by kernel_rfl
    rw [hC] at hx
    obtain ⟨b, o, sp⟩ := a
    have hsp : sp = none := by
      obtain ⟨cs', hcells, _⟩ := hx 0 (by omega)
      obtain ⟨_, hlen, hget⟩ := World.cells?_some hcells
      have g0 := hget 0 (by omega)
      rw [List.getElem?_eq_getElem (by omega)] at g0
      exact cell_spot (by simpa [Addr.add] using g0)
    subst hsp
    generalize ha : (⟨b, o, none⟩ : Addr) = a at *
    have each : ∀ i, ∃ q : Int × Int × Option Addr × Nat × Nat × List Int, i < m → W.cell? (a.add (i * 3)) = some (.int .i64 q.1) ∧ W.cell? ((a.add (i * 3)).add 1) = some (.int .i64 q.2.1) ∧ W.cell? ((a.add (i * 3)).add 2) = some (.slice q.2.2.1 q.2.2.2.1 q.2.2.2.2.1) ∧
        IsRow .u8 W q.2.2.1 q.2.2.2.1 q.2.2.2.2.1 q.2.2.2.2.2 := by
      intro i
      by_cases hi : i < m
      · obtain ⟨cs', hcells, ht⟩ := hx i hi
        obtain ⟨_, hlen, hget⟩ := World.cells?_some hcells
        obtain ⟨_, hp⟩ := open_parts Try.underlying48 (by kernel_rfl) ht
        match cs', hlen with
        | [c0, c1, c2], _ =>
          obtain ⟨_, _, h0⟩ := hp 0 _ c0 rfl rfl
          obtain ⟨_, _, h1⟩ := hp 1 _ c1 rfl rfl
          obtain ⟨_, _, h2⟩ := hp 2 _ c2 rfl rfl
          obtain ⟨n0, e0, _, w0⟩ := DataW.trod_int Try.underlying3 h0
          obtain ⟨n1, e1, _, w1⟩ := DataW.trod_int Try.underlying3 h1
          obtain ⟨a2, len2, cap2, zs, e2, hr⟩ := row_one Try.underlying24 Try.underlying5 (by kernel_rfl) h2
          simp at e0 e1
          subst e0 e1 e2
          have g0 := hget 0 (by omega)
          have g1 := hget 1 (by omega)
          have g2 := hget 2 (by omega)
          have ga : (a.add (i * 3)).add 0 = a.add (i * 3) := by simp [Addr.add]
          rw [ga] at g0
          exact ⟨(n0, n1, a2, len2, cap2, zs), fun _ => ⟨by simpa using g0, by simpa using g1, by simpa using g2, hr⟩⟩
      · exact ⟨(0, 0, none, 0, 0, []), fun h => absurd h hi⟩
    let q := fun i => Classical.choose (each i)
    have hq := fun i => Classical.choose_spec (each i)
    have hlen : ((List.range len).map fun i => ((q i).1, (q i).2.1, (q i).2.2.2.2.2.take (q i).2.2.2.1)).length = len := by simp
    have hgd : ∀ i, i < len → ((List.range len).map fun i => ((q i).1, (q i).2.1, (q i).2.2.2.2.2.take (q i).2.2.2.1)).getD i bm0 = ((q i).1, (q i).2.1, (q i).2.2.2.2.2.take (q i).2.2.2.1) := fun i hi => by simp [List.getD_eq_getElem?_getD, hi]
    refine ⟨(List.range len).map fun i => ((q i).1, (q i).2.1, (q i).2.2.2.2.2.take (q i).2.2.2.1), some a, m, by rw [hlen], by rw [hlen]; exact hl, hm,
      ⟨⟨fun i => (q i).2.2.1, fun i => (q i).2.2.2.1, fun i => (q i).2.2.2.2.1, fun i => (q i).2.2.2.2.2, fun i hi => ?_, fun i hi => ?_, by rw [hlen]; exact hl, .inr ⟨b, o, by rw [ha], fun i hi => ?_⟩⟩⟩⟩
    · rw [hlen] at hi; exact (hq i (by omega)).2.2.2
    · rw [hlen] at hi; rw [hgd i hi]
    · rw [hlen] at hi; simp only [hgd i hi]
      obtain ⟨h1, h2, h3, _⟩ := hq i (by omega)
      have e0 : a.add (i * 3) = ⟨b, o + i * 3, none⟩ := by rw [← ha, addr_add]
      have e1 : (a.add (i * 3)).add 1 = ⟨b, o + (i * 3 + 1), none⟩ := by rw [← ha, addr_add, addr_add, Nat.add_assoc]
      have e2 : (a.add (i * 3)).add 2 = ⟨b, o + (i * 3 + 2), none⟩ := by rw [← ha, addr_add, addr_add, Nat.add_assoc]
      exact ⟨e0 ▸ h1, e1 ▸ h2, e2 ▸ h3⟩

/-- The objects of a slice of bitmaps, the pixels' from k on. -/
theorem BmRow.args {W : World} {l : List Bm} {a : Option Addr} {cap : Nat} (r : BmRow W l a cap) (te : TypeId) : ∃ X : Nat → RoArg, (∀ i, (X i).cs = ints .u8 (l.getD i bm0).2.2 ∧ (X i).e = te ∧ (∀ B ρ, CRel B ρ (X i).cs (fun j => W.cell? ⟨(X i).blk, (X i).base + j, none⟩)) ∧ ByOk (l.getD i bm0).2.2 ∧ (l.getD i bm0).2.2.length ≤ maxLen) ∧
    ∀ i, i < l.length → ∀ (B : Nat → Prop) (ρ : Nat → Pl) (k : Nat), B k → ρ k = ⟨(X i).blk, (X i).base, false, 0, 0⟩ → VRel B ρ (.slice k 0 (l.getD i bm0).2.2.length) (.slice (r.A i) (r.Ln i) (r.Cp i)) := by
  have each : ∀ i, ∃ x : RoArg, (x.cs = ints .u8 (l.getD i bm0).2.2 ∧ x.e = te ∧ (∀ B ρ, CRel B ρ x.cs (fun j => W.cell? ⟨x.blk, x.base + j, none⟩)) ∧ ByOk (l.getD i bm0).2.2 ∧ (l.getD i bm0).2.2.length ≤ maxLen) ∧
      (i < l.length → ∀ (B : Nat → Prop) (ρ : Nat → Pl) (k : Nat), B k → ρ k = ⟨x.blk, x.base, false, 0, 0⟩ → VRel B ρ (.slice k 0 (l.getD i bm0).2.2.length) (.slice (r.A i) (r.Ln i) (r.Cp i))) := by
    intro i
    by_cases hi : i < l.length
    · obtain ⟨x, hx, he, hl, hm, hw, hc, hv⟩ := row_ints (r.row i hi) te
      have hp := r.pix i hi
      refine ⟨x, ⟨by rw [hx, hp], he, hc, by rw [hp]; exact fun n hn => wf_u8 (hw n hn), by rw [hp, hl]; exact hm⟩, fun _ B ρ k hb hr => ?_⟩
      rw [hp, hl]; exact hv B ρ k hb hr
    · have hz : l.getD i bm0 = bm0 := by simp [List.getD_eq_getElem?_getD, List.getElem?_eq_none (Nat.le_of_not_lt hi)]
      have hb0 : ByOk bm0.2.2 := fun x hx => by cases hx
      refine ⟨⟨[], te, 0, 0⟩, ⟨by rw [hz]; rfl, rfl, fun B ρ j v hv => by simp at hv, ?_, ?_⟩, fun h => absurd h hi⟩
      · rw [hz]; exact hb0
      · rw [hz]; simp
  exact ⟨fun i => Classical.choose (each i), fun i => (Classical.choose_spec (each i)).1, fun i => (Classical.choose_spec (each i)).2⟩
theorem BmRow.cells {W : World} {l : List Bm} {a : Option Addr} {cap : Nat} (r : BmRow W l a cap) {B : Nat → Prop} {ρ : Nat → Pl} (k : Nat)
    (hv : ∀ i, i < l.length → VRel B ρ (.slice (k + i) 0 (l.getD i bm0).2.2.length) (.slice (r.A i) (r.Ln i) (r.Cp i))) : ∃ b o, CRel B ρ (bmsF k l) (fun j => W.cell? ⟨b, o + j, none⟩) ∧ (cap = 0 ∨ a = some ⟨b, o, none⟩) := by
  rcases r.at_ with h | ⟨b, o, ha, hc⟩
  · obtain rfl : l = [] := List.length_eq_zero_iff.1 (by have := r.lc; omega)
    exact ⟨0, 0, fun j v hv => by simp [bmsF] at hv, .inl h⟩
  · refine ⟨b, o, fun j v hjv => ?_, .inr ha⟩
    have hjl := (List.getElem?_eq_some_iff.1 hjv).1
    rw [bmsF_len] at hjl
    obtain ⟨i, s, hjs, hs⟩ : ∃ i s, j = i * 3 + s ∧ s < 3 := ⟨j / 3, j % 3, by omega, by omega⟩
    have hil : i < l.length := by omega
    have hg := bmsF_get k l i hil
    have hget : (((bmsF k l).drop (i * 3)).take 3)[s]? = (bmsF k l)[j]? := by rw [List.getElem?_take, if_pos hs, List.getElem?_drop, hjs]
    rw [hg, hjv] at hget
    obtain ⟨h1, h2, h3⟩ := hc i hil
    have hs3 : s = 0 ∨ s = 1 ∨ s = 2 := by omega
    rcases hs3 with rfl | rfl | rfl
    · simp at hget; subst hget
      exact ⟨_, by rw [hjs]; exact h1, .int _ _⟩
    · simp at hget; subst hget
      exact ⟨_, by rw [hjs]; exact h2, .int _ _⟩
    · have hget' : AV.slice (k + i) 0 (l.getD i bm0).2.2.length = v := by simpa using hget
      rw [← hget']
      exact ⟨_, by rw [hjs]; exact h3, hv i hil⟩
end Go.Proofs.Ytbfefpkhalegmaa
