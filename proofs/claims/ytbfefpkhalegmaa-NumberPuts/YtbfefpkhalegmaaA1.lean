/- Abstract values, abstract memory, and how the model's values and memory relate to them. -/
import Derived.Calls
import Derived.Orders
import Derived.Laws.Sem
import Derived.Laws.World
import Derived.Laws.Entries
import Derived.Laws.Cells
import Derived.Laws.Append
import Derived.Laws.Slices
import Derived.Laws.StructEq
import Derived.Laws.BytesArg

set_option linter.unusedVariables false
set_option linter.unusedSimpArgs false
namespace Go.Proofs.Ytbfefpkhalegmaa
open Go

/-- An abstract value: pointers and slices name abstract objects; a slice has no capacity. -/
inductive AV where
  | bool (b : Bool)
  | int (k : IntKind) (n : Int)
  | str (s : ByteArray)
  | ptr (i off : Nat)
  | nilptr
  | slice (i off len : Nat)
  | nilslice
  | noslice              -- not nil, of no element and no capacity
  | fn (f : Fn) (caps : List AV)
  | agg (cs : List AV)
  | tup (vs : List AV)
  | junk                 -- whatever it is
  deriving Inhabited

/-- An abstract object: not there; there and not to be used; of the call's own; read alone. -/
inductive AObj where
  | unborn
  | dead
  | own (cs : List AV) (e : TypeId)
  | ro (cs : List AV) (e : TypeId)
  deriving Inhabited

abbrev Heap := Nat → AObj
def AObj.born : AObj → Prop | .unborn => False | _ => True
def AObj.isOwn : AObj → Prop | .own _ _ => True | _ => False
def AObj.live : AObj → Prop | .own _ _ => True | .ro _ _ => True | _ => False
def AObj.cells : AObj → List AV | .own cs _ => cs | .ro cs _ => cs | _ => []
def born (h : Heap) (i : Nat) : Prop := (h i).born

/-- Where an abstract object lies. -/
structure Pl where
  blk : Nat
  base : Nat
  own : Bool
  tot : Nat
  esz : Nat

mutual
inductive VRel (B : Nat → Prop) (ρ : Nat → Pl) : AV → Value → Prop
  | bool (b : Bool) : VRel B ρ (.bool b) (.bool b)
  | int (k : IntKind) (n : Int) : VRel B ρ (.int k n) (.int k n)
  | str (s : ByteArray) : VRel B ρ (.str s) (.string s)
  | ptr (i off : Nat) (hb : B i) : VRel B ρ (.ptr i off) (.pointer (some ⟨(ρ i).blk, (ρ i).base + off, none⟩))
  | nilptr : VRel B ρ .nilptr (.pointer none)
  | slice (i off len cap : Nat) (hb : B i) (hl : len ≤ cap) (hc : (ρ i).own = true → off + cap * (ρ i).esz = (ρ i).tot) :
      VRel B ρ (.slice i off len) (.slice (some ⟨(ρ i).blk, (ρ i).base + off, none⟩) len cap)
  | slice0 (i off : Nat) (a : Option Addr) (hb : B i) : VRel B ρ (.slice i off 0) (.slice a 0 0)
  | nilslice : VRel B ρ .nilslice (.slice none 0 0)
  | noslice (a : Addr) : VRel B ρ .noslice (.slice (some a) 0 0)
  | fn (f : Fn) (caps : List AV) (vs : List Value) (h : VsRel B ρ caps vs) : VRel B ρ (.fn f caps) (.func f #[] vs.toArray)
  | agg (cs : List AV) (vs : List Value) (h : VsRel B ρ cs vs) : VRel B ρ (.agg cs) (.agg vs.toArray)
  | tup (cs : List AV) (vs : List Value) (h : VsRel B ρ cs vs) : VRel B ρ (.tup cs) (.tuple vs.toArray)
  | junk (v : Value) : VRel B ρ .junk v
inductive VsRel (B : Nat → Prop) (ρ : Nat → Pl) : List AV → List Value → Prop
  | nil : VsRel B ρ [] []
  | cons (v : AV) (V : Value) (vs : List AV) (Vs : List Value) (h : VRel B ρ v V) (hs : VsRel B ρ vs Vs) : VsRel B ρ (v :: vs) (V :: Vs)
end

section
variable {B B' : Nat → Prop} {ρ ρ' : Nat → Pl}
mutual
theorem VRel.mono (hB : ∀ i, B i → B' i ∧ ρ' i = ρ i) {v : AV} {V : Value} (h : VRel B ρ v V) : VRel B' ρ' v V := by
  cases h with
  | bool b => exact .bool b
  | int k n => exact .int k n
  | str s => exact .str s
  | ptr i off hb => rw [← (hB i hb).2]; exact .ptr i off (hB i hb).1
  | nilptr => exact .nilptr
  | slice i off len cap hb hl hc =>
    have e := (hB i hb).2
    rw [← e]
    exact .slice i off len cap (hB i hb).1 hl (by rw [e]; exact hc)
  | slice0 i off a hb => exact .slice0 i off a (hB i hb).1
  | nilslice => exact .nilslice
  | noslice a => exact .noslice a
  | fn f caps vs h => exact .fn f caps vs (VsRel.mono hB h)
  | agg cs vs h => exact .agg cs vs (VsRel.mono hB h)
  | tup cs vs h => exact .tup cs vs (VsRel.mono hB h)
  | junk => exact .junk _
theorem VsRel.mono (hB : ∀ i, B i → B' i ∧ ρ' i = ρ i) {v : List AV} {V : List Value} (h : VsRel B ρ v V) : VsRel B' ρ' v V := by
  cases h with
  | nil => exact .nil
  | cons v V vs Vs h hs => exact .cons v V vs Vs (VRel.mono hB h) (VsRel.mono hB hs)
end

theorem VsRel.length {vs : List AV} {Vs : List Value} (h : VsRel B ρ vs Vs) : vs.length = Vs.length := by
  induction vs generalizing Vs with
  | nil => cases h; rfl
  | cons v vs ih => cases h with | cons _ _ _ _ _ hs => simp [ih hs]

theorem VsRel.get {vs : List AV} {Vs : List Value} (h : VsRel B ρ vs Vs) (i : Nat) (v : AV) (hv : vs[i]? = some v) : ∃ V, Vs[i]? = some V ∧ VRel B ρ v V := by
  induction vs generalizing Vs i with
  | nil => simp at hv
  | cons x vs ih =>
    cases h with
    | cons _ V _ Vs h hs =>
      cases i with
      | zero => simp at hv; subst hv; exact ⟨V, rfl, h⟩
      | succ i => simpa using ih hs i (by simpa using hv)

theorem VsRel.of_get {vs : List AV} {Vs : List Value} (hl : vs.length = Vs.length) (h : ∀ (i : Nat) (v : AV) (V : Value), vs[i]? = some v → Vs[i]? = some V → VRel B ρ v V) : VsRel B ρ vs Vs := by
  induction vs generalizing Vs with
  | nil => cases Vs with | nil => exact .nil | cons _ _ => simp at hl
  | cons x vs ih =>
    cases Vs with
    | nil => simp at hl
    | cons V Vs =>
      exact .cons _ _ _ _ (h 0 x V rfl rfl) (ih (by simpa using hl) fun i v V hv hV => h (i + 1) v V (by simpa using hv) (by simpa using hV))

theorem VsRel.set {vs : List AV} {Vs : List Value} (h : VsRel B ρ vs Vs) (i : Nat) {v : AV} {V : Value} (hv : VRel B ρ v V) : VsRel B ρ (vs.set i v) (Vs.set i V) := by
  induction vs generalizing Vs i with
  | nil => cases h; exact .nil
  | cons x vs ih =>
    cases h with
    | cons _ V' _ Vs h hs =>
      cases i with
      | zero => exact .cons _ _ _ _ hv hs
      | succ i => exact .cons _ _ _ _ h (ih hs i)

theorem VsRel.append {vs us : List AV} {Vs Us : List Value} (h : VsRel B ρ vs Vs) (h' : VsRel B ρ us Us) : VsRel B ρ (vs ++ us) (Vs ++ Us) := by
  induction vs generalizing Vs with
  | nil => cases h; exact h'
  | cons x vs ih => cases h with | cons _ V' _ Vs h hs => exact .cons _ _ _ _ h (ih hs)

theorem VsRel.junk (Vs : List Value) : VsRel B ρ (List.replicate Vs.length .junk) Vs := by
  induction Vs with
  | nil => exact .nil
  | cons V Vs ih => exact .cons _ _ _ _ (.junk _) ih

theorem VsRel.take {vs : List AV} {Vs : List Value} (h : VsRel B ρ vs Vs) (n : Nat) : VsRel B ρ (vs.take n) (Vs.take n) := by
  induction vs generalizing Vs n with
  | nil => cases h; simp; exact .nil
  | cons x vs ih =>
    cases h with
    | cons _ V' _ Vs h hs =>
      cases n with
      | zero => exact .nil
      | succ n => exact .cons _ _ _ _ h (ih hs n)

theorem VsRel.drop {vs : List AV} {Vs : List Value} (h : VsRel B ρ vs Vs) (n : Nat) : VsRel B ρ (vs.drop n) (Vs.drop n) := by
  induction vs generalizing Vs n with
  | nil => cases h; simp; exact .nil
  | cons x vs ih =>
    cases h with
    | cons _ V' _ Vs h hs =>
      cases n with
      | zero => exact .cons _ _ _ _ h hs
      | succ n => exact ih hs n
end

/-- Cells that read as a list of abstract values. -/
def CRel (B : Nat → Prop) (ρ : Nat → Pl) (cs : List AV) (get : Nat → Option Value) : Prop :=
  ∀ j v, cs[j]? = some v → ∃ V, get j = some V ∧ VRel B ρ v V

theorem CRel.mono {B B' : Nat → Prop} {ρ ρ' : Nat → Pl} {cs : List AV} {get get' : Nat → Option Value} (h : CRel B ρ cs get) (hB : ∀ i, B i → B' i ∧ ρ' i = ρ i)
    (hg : ∀ j V, j < cs.length → get j = some V → get' j = some V) : CRel B' ρ' cs get' := by
  intro j v hv
  obtain ⟨V, hV, hr⟩ := h j v hv
  exact ⟨V, hg j V (List.getElem?_eq_some_iff.1 hv).1 hV, hr.mono hB⟩

/-- An object of the call's own that has a block; an object that has cells somewhere. -/
def hasBlk (ρ : Nat → Pl) (h : Heap) (i : Nat) : Prop := (h i).isOwn ∧ 0 < (ρ i).tot
def held (ρ : Nat → Pl) (h : Heap) (i : Nat) : Prop := hasBlk ρ h i ∨ ∃ cs e, h i = .ro cs e ∧ cs ≠ []

/-- The world reads as the abstract memory. -/
structure Sim (P : Program) (ρ : Nat → Pl) (h : Heap) (w : World) : Prop where
  own : ∀ i cs e, h i = .own cs e → (ρ i).own = true ∧ (ρ i).base = 0 ∧ (∃ ti, P.info? e = some ti ∧ ti.size = (ρ i).esz) ∧ cs.length ≤ (ρ i).tot ∧
    (0 < (ρ i).tot → ∃ c, w.heap[(ρ i).blk]? = some (.cells c e (0, 0)) ∧ c.size = (ρ i).tot ∧ CRel (born h) ρ cs (fun j => c[j]?))
  ro : ∀ i cs e, h i = .ro cs e → ((ρ i).own = true → ∃ ti, P.info? e = some ti ∧ ti.size = (ρ i).esz) ∧ CRel (born h) ρ cs (fun j => w.cell? ⟨(ρ i).blk, (ρ i).base + j, none⟩)
  inj : ∀ i j, i ≠ j → hasBlk ρ h i → held ρ h j → (ρ i).blk ≠ (ρ j).blk

/-- Of the world w nothing has turned but in blocks that meet O, and new blocks. -/
structure Kept (O : Nat → Prop) (w w' : World) : Prop where
  os : w'.os = w.os
  tape : w'.tape = w.tape
  output : w'.output = w.output
  size : w.heap.size ≤ w'.heap.size
  block : ∀ k, k < w.heap.size → ¬ O k → w'.heap[k]? = w.heap[k]?

theorem Kept.refl (O : Nat → Prop) (w : World) : Kept O w w := ⟨rfl, rfl, rfl, Nat.le_refl _, fun _ _ _ => rfl⟩
theorem Kept.trans {O O' : Nat → Prop} {w w1 w2 : World} (h : Kept O w w1) (h' : Kept O' w1 w2) (hO : ∀ k, O' k → O k ∨ w.heap.size ≤ k) : Kept O w w2 :=
  ⟨h'.os.trans h.os, h'.tape.trans h.tape, h'.output.trans h.output, Nat.le_trans h.size h'.size, fun k hk hn => by
    rw [h'.block k (Nat.lt_of_lt_of_le hk h.size) (fun ho => (hO k ho).elim hn (fun hle => by omega)), h.block k hk hn]⟩

/-- The blocks of the call's own objects. -/
def ownImg (ρ : Nat → Pl) (h : Heap) (k : Nat) : Prop := ∃ i, hasBlk ρ h i ∧ (ρ i).blk = k

theorem Sim.own_lt {P : Program} {ρ : Nat → Pl} {h : Heap} {w : World} (s : Sim P ρ h w) {k : Nat} (hk : ownImg ρ h k) : k < w.heap.size := by
  obtain ⟨i, hi, rfl⟩ := hk
  obtain ⟨ho, ht⟩ := hi
  cases e : h i with
  | own cs t =>
    obtain ⟨_, _, _, _, hx⟩ := s.own i cs t e
    obtain ⟨c, hc, _⟩ := hx ht
    exact (Array.getElem?_eq_some_iff.1 hc).1
  | _ => simp [e, AObj.isOwn] at ho

/-- Where a function began: its world, its own blocks, its objects. -/
structure Ctx where
  w0 : World
  O : Nat → Prop
  D : Nat → Prop
  ρ0 : Nat → Pl

structure St (P : Program) (C : Ctx) (ρ : Nat → Pl) (h : Heap) (fr : List AV) (a : Act) (w : World) : Prop where
  sim : Sim P ρ h w
  fr : VsRel (born h) ρ fr a.tmps.toList
  defers : a.defers = []
  kept : Kept C.O C.w0 w
  mine : ∀ i, hasBlk ρ h i → C.O (ρ i).blk ∨ C.w0.heap.size ≤ (ρ i).blk
  old : ∀ i, C.D i → ρ i = C.ρ0 i ∧ born h i

/-- A call, told on abstract memory. -/
def ACall (P : Program) (f : FuncId) (args : List AV) (h : Heap) (R : AV → Heap → Prop) : Prop :=
  ∀ (ρ : Nat → Pl) (w : World) (vargs : List Value), Sim P ρ h w → VsRel (born h) ρ args vargs →
    Calls P f vargs.toArray w fun e w' => ∃ ρ' r h' v, e = .returned v ∧ R r h' ∧ Sim P ρ' h' w' ∧ VRel (born h') ρ' r v ∧
      Kept (ownImg ρ h) w w' ∧ (∀ i, born h i → ρ' i = ρ i ∧ born h' i) ∧ (∀ i, hasBlk ρ' h' i → ownImg ρ h (ρ' i).blk ∨ w.heap.size ≤ (ρ' i).blk)

end Go.Proofs.Ytbfefpkhalegmaa

set_option linter.unusedVariables false
set_option linter.unusedSimpArgs false
namespace Go.Proofs.Ytbfefpkhalegmaa
open Go

inductive TK where
  | int (k : IntKind)
  | bool
  | str
  | slice (e : TypeId)
  | arr (n : Nat) (e : TypeId)
  | struct (fs : List (Nat × TypeId × Nat))
  | ptr (e : TypeId)
  | func
  deriving Inhabited
def TK.isAgg : TK → Bool | .arr _ _ => true | .struct _ => true | _ => false

structure TI where
  size : Nat
  bytes : Nat
  zero : List AV
  k : TK
  deriving Inhabited
abbrev TyTab := TypeId → Option TI

def ofVal1 : Value → AV
  | .bool b => .bool b
  | .int k n => .int k n
  | .string s => .str s
  | .pointer none => .nilptr
  | .slice none 0 0 => .nilslice
  | _ => .junk
def ofVals (vs : List Value) : List AV := vs.map ofVal1
def ofVal : Value → AV
  | .agg cs => .agg (ofVals cs.toList)
  | v => ofVal1 v

theorem ofVal1_rel (B : Nat → Prop) (ρ : Nat → Pl) (v : Value) : VRel B ρ (ofVal1 v) v := by
  unfold ofVal1
  split
  · exact .bool _
  · exact .int _ _
  · exact .str _
  · exact .nilptr
  · exact .nilslice
  · exact .junk _
theorem ofVals_rel (B : Nat → Prop) (ρ : Nat → Pl) (vs : List Value) : VsRel B ρ (ofVals vs) vs := by
  induction vs with
  | nil => exact .nil
  | cons v vs ih => exact .cons _ _ _ _ (ofVal1_rel B ρ v) ih
theorem ofVal_rel (B : Nat → Prop) (ρ : Nat → Pl) (v : Value) : VRel B ρ (ofVal v) v := by
  unfold ofVal
  split
  · rename_i cs
    have := VRel.agg (ρ := ρ) _ cs.toList (ofVals_rel B ρ cs.toList)
    simpa using this
  · exact ofVal1_rel B ρ v

/-- One row of the table, held against the program's own. -/
def DOk (P : Program) : TypeDesc → TK → Prop
  | .int k, .int k' => k = k'
  | .bool, .bool => True
  | .string, .str => True
  | .slice e, .slice e' => e = e'
  | .array n e, .arr n' e' => n = n' ∧ e = e'
  | .struct fields, .struct fs => fields.toList.map (fun f => (f.offset, f.type, (P.info? f.type).map (·.size))) = fs.map fun x => (x.1, x.2.1, some x.2.2)
  | .pointer e, .ptr e' => e = e'
  | .func _ _ _, .func => True
  | _, _ => False
structure TyOk (P : Program) (t : TypeId) (ti : TI) : Prop where
  info : ∃ i, P.info? t = some i ∧ i.size = ti.size ∧ i.bytes = ti.bytes ∧ ∃ z, i.zero = some z ∧ ofVals z.cells.toList = ti.zero
  desc : ∃ d, P.underlying t = some d ∧ DOk P d ti.k
  zlen : ti.zero.length = ti.size
def TOk (P : Program) (T : TyTab) : Prop := ∀ t ti, T t = some ti → TyOk P t ti


/-- A type as the program's own table has it. -/
def tkOf (P : Program) : TypeDesc → Option TK
  | .int k => some (.int k)
  | .bool => some .bool
  | .string => some .str
  | .slice e => some (.slice e)
  | .array n e => some (.arr n e)
  | .pointer e => some (.ptr e)
  | .func _ _ _ => some .func
  | .struct fields => (fields.toList.mapM fun f => (P.info? f.type).map fun i => (f.offset, f.type, i.size)).map .struct
  | _ => none
def tyOf (P : Program) (t : TypeId) : Option TI :=
  match P.info? t, (P.underlying t).bind (tkOf P) with
  | some i, some k => match i.zero with
    | some z => if z.cells.toList.length = i.size then some ⟨i.size, i.bytes, ofVals z.cells.toList, k⟩ else none
    | none => none
  | _, _ => none
theorem mapM_some {α β : Type} (f : α → Option β) : ∀ (l : List α) (r : List β), l.mapM f = some r → l.map f = r.map some
  | [], r, h => by simp at h; subst h; rfl
  | x :: l, r, h => by
    rw [List.mapM_cons] at h
    cases hx : f x with
    | none => simp [hx] at h
    | some y =>
      cases hl : l.mapM f with
      | none => simp [hx, hl] at h
      | some ys =>
        simp [hx, hl] at h
        subst h
        simp [hx, mapM_some f l ys hl]
theorem tyOf_ok (P : Program) : TOk P (tyOf P) := by
  intro t ti h
  unfold tyOf at h
  split at h
  case h_2 => simp at h
  case h_1 i k hi hk =>
  split at h
  case h_2 => simp at h
  case h_1 z hz =>
  split at h
  case isFalse => simp at h
  case isTrue hl =>
  injection h with h
  subst h
  refine ⟨⟨i, hi, rfl, rfl, z, hz, rfl⟩, ?_, by simp [ofVals, hl]⟩
  cases hu : P.underlying t with
  | none => simp [hu] at hk
  | some d =>
    simp [hu] at hk
    refine ⟨d, rfl, ?_⟩
    cases d <;> simp only [tkOf] at hk <;> first | (simp at hk; done) | skip
    all_goals first | (injection hk with hk; subst hk; simp [DOk]; done) | skip
    rename_i fields
    cases hm : fields.toList.mapM (fun f => (P.info? f.type).map fun i => (f.offset, f.type, i.size)) with
    | none => simp [hm] at hk
    | some fs =>
      simp [hm] at hk
      subst hk
      have := mapM_some _ _ _ hm
      simp only [DOk]
      have e : fields.toList.map (fun f => (f.offset, f.type, (P.info? f.type).map (·.size))) = (fields.toList.map (fun f => (f.offset, f.type, (P.info? f.type).map fun i => (f.offset, f.type, i.size)))).map (fun (x : Nat × TypeId × Option (Nat × TypeId × Nat)) => (x.1, x.2.1, x.2.2.map (·.2.2))) := by
        simp [Function.comp_def]
      have key : ∀ (l : List Field) (fs : List (Nat × TypeId × Nat)), l.map (fun f => (P.info? f.type).map fun i => (f.offset, f.type, i.size)) = fs.map some →
          l.map (fun f => (f.offset, f.type, (P.info? f.type).map (·.size))) = fs.map fun x => (x.1, x.2.1, some x.2.2) := by
        intro l
        induction l with
        | nil => intro fs h; cases fs <;> simp_all
        | cons f l ih =>
          intro fs h
          cases fs with
          | nil => simp at h
          | cons x fs =>
            simp only [List.map_cons, List.cons.injEq] at h
            obtain ⟨h1, h2⟩ := h
            cases hi : P.info? f.type with
            | none => simp [hi] at h1
            | some i =>
              simp [hi] at h1
              subst h1
              simp [hi, ih fs h2]
      exact key _ _ this

def upd {α : Type} (f : Nat → α) (k : Nat) (x : α) : Nat → α := fun i => if i = k then x else f i
theorem upd_same {α : Type} (f : Nat → α) (k : Nat) (x : α) : upd f k x k = x := by simp [upd]
theorem upd_ne {α : Type} (f : Nat → α) {k i : Nat} (x : α) (h : i ≠ k) : upd f k x i = f i := by simp [upd, h]

def lh (L : List AObj) : Heap := fun i => L.getD i .unborn
theorem lh_append (L : List AObj) (o : AObj) : lh (L ++ [o]) = upd (lh L) L.length o := by
  funext i
  unfold lh upd
  by_cases h : i = L.length
  · subst h; simp
  · rw [if_neg h]
    by_cases h' : i < L.length
    · simp [h', List.getElem?_append_left]
    · have : L.length + 1 ≤ i := by omega
      simp [List.getElem?_eq_none, this, List.getD, Nat.le_of_lt this, show (L ++ [o]).length ≤ i by simpa using this]
theorem lh_set (L : List AObj) (i : Nat) (o : AObj) (h : i < L.length) : lh (L.set i o) = upd (lh L) i o := by
  funext j
  unfold lh upd
  by_cases e : j = i
  · subst e; simp [h]
  · rw [if_neg e]; simp [List.getD, List.getElem?_set, Ne.symm e]
theorem lh_get {L : List AObj} {i : Nat} {o : AObj} (h : L[i]? = some o) : lh L i = o := by simp [lh, h]
theorem lh_unborn (L : List AObj) : lh L L.length = .unborn := by simp [lh]

/-! ### Values and their cells -/
def cellsOf : AV → List AV | .agg cs => cs | v => [v]
/-- What has told cells. -/
def AV.solid : AV → Bool | .junk => false | _ => true
/-- What one cell of memory may be given. -/
def AV.cell1 : AV → Bool | .junk => false | .agg _ => false | .tup _ => false | _ => true

section
variable {B : Nat → Prop} {ρ : Nat → Pl}
theorem cellsOf_rel {v : AV} {V : Value} (h : VRel B ρ v V) (hs : v.solid = true) : VsRel B ρ (cellsOf v) V.cells.toList := by
  cases h with
  | agg cs vs h => simpa [cellsOf, Value.cells] using h
  | junk => simp [AV.solid] at hs
  | bool b => exact .cons _ _ _ _ (.bool b) .nil
  | int k n => exact .cons _ _ _ _ (.int k n) .nil
  | str s => exact .cons _ _ _ _ (.str s) .nil
  | ptr i off hb => exact .cons _ _ _ _ (.ptr i off hb) .nil
  | nilptr => exact .cons _ _ _ _ .nilptr .nil
  | slice i off len cap hb hl hc => exact .cons _ _ _ _ (.slice i off len cap hb hl hc) .nil
  | slice0 i off a hb => exact .cons _ _ _ _ (.slice0 i off a hb) .nil
  | nilslice => exact .cons _ _ _ _ .nilslice .nil
  | noslice a => exact .cons _ _ _ _ (.noslice a) .nil
  | fn f caps vs h => exact .cons _ _ _ _ (.fn f caps vs h) .nil
  | tup cs vs h => exact .cons _ _ _ _ (.tup cs vs h) .nil
theorem cell1_rel {v : AV} {V : Value} (h : VRel B ρ v V) (hs : v.cell1 = true) : V.oneCell' = true := by
  cases h <;> simp_all [AV.cell1, Value.oneCell']
end

/-! ### The world's small laws -/
section
variable {P : Program} {ρ : Nat → Pl} {h : Heap} {w : World}

theorem Sim.cell {i off : Nat} {v : AV} (s : Sim P ρ h w) (hl : (h i).live) (hv : (h i).cells[off]? = some v) :
    ∃ V, w.cell? ⟨(ρ i).blk, (ρ i).base + off, none⟩ = some V ∧ VRel (born h) ρ v V := by
  cases e : h i with
  | own cs t =>
    obtain ⟨_, hb, _, hl, hx⟩ := s.own i cs t e
    rw [e] at hv
    have hoff : off < cs.length := (List.getElem?_eq_some_iff.1 hv).1
    obtain ⟨c, hc, _, hr⟩ := hx (by omega)
    obtain ⟨V, hV, hrel⟩ := hr off v hv
    exact ⟨V, by simp [World.cell?, hc, hb, hV], hrel⟩
  | ro cs t =>
    rw [e] at hv
    exact (s.ro i cs t e).2 off v hv
  | _ => simp [e, AObj.live] at hl

theorem Sim.held_lt (s : Sim P ρ h w) {i : Nat} (hl : held ρ h i) : (ρ i).blk < w.heap.size := by
  rcases hl with ho | ⟨cs, t, e, hne⟩
  · exact s.own_lt ⟨i, ho, rfl⟩
  · cases cs with
    | nil => exact absurd rfl hne
    | cons v vs =>
      obtain ⟨V, hV, _⟩ := (s.ro i _ t e).2 0 v rfl
      simp only [World.cell?] at hV
      cases hb : w.heap[(ρ i).blk]? with
      | none => simp [hb] at hV
      | some o => exact (Array.getElem?_eq_some_iff.1 hb).1
theorem born_of_live {i : Nat} (hl : (h i).live) : born h i := by
  unfold born; cases e : h i <;> simp_all [AObj.live, AObj.born]
theorem live_of_own {o : AObj} (ho : o.isOwn) : o.live := by cases o <;> simp_all [AObj.isOwn, AObj.live]
theorem born_upd {k : Nat} {o : AObj} (hk : ¬ born h k ∨ o.born) {l : Nat} (hl : born h l) : born (upd h k o) l := by
  by_cases e : l = k
  · subst e
    rcases hk with hk | hk
    · exact absurd hl hk
    · simpa [born, upd_same] using hk
  · simpa [born, upd_ne _ _ e] using hl
theorem born_own {k : Nat} {cs : List AV} {e : TypeId} {l : Nat} (hl : born h l) : born (upd h k (.own cs e)) l := born_upd (.inr (by simp [AObj.born])) hl
theorem born_dead {k : Nat} {l : Nat} (hl : born h l) : born (upd h k .dead) l := born_upd (.inr (by simp [AObj.born])) hl
theorem hasBlk_upd {k : Nat} {o : AObj} {i : Nat} (hi : i ≠ k) (x : hasBlk ρ (upd h k o) i) : hasBlk ρ h i := by
  unfold hasBlk at *; rwa [upd_ne _ _ hi] at x
theorem held_upd {k : Nat} {o : AObj} {i : Nat} (hi : i ≠ k) (x : held ρ (upd h k o) i) : held ρ h i := by
  unfold held hasBlk at *; rwa [upd_ne _ _ hi] at x

/-- A new block (or none, where there is no cell). -/
theorem Sim.alloc (s : Sim P ρ h w) {k : Nat} (hk : h k = .unborn) (c : Array Value) (cs : List AV) (e : TypeId) (ti : TypeInfo) (hi : P.info? e = some ti)
    (hl : cs.length ≤ c.size) (hr : CRel (born h) ρ cs (fun j => c[j]?)) :
    Sim P (upd ρ k ⟨w.heap.size, 0, true, c.size, ti.size⟩) (upd h k (.own cs e)) { w with heap := w.heap.push (.cells c e) } := by
  have hB : ∀ i, born h i → born (upd h k (.own cs e)) i ∧ upd ρ k ⟨w.heap.size, 0, true, c.size, ti.size⟩ i = ρ i := by
    intro i hi
    have hne : i ≠ k := fun e => by subst e; simp [born, hk, AObj.born] at hi
    exact ⟨by simpa [born, upd_ne _ _ hne] using hi, upd_ne _ _ hne⟩
  have hsz : ∀ (b : Nat) (o : Obj), w.heap[b]? = some o → (w.heap.push (.cells c e))[b]? = some o := by
    intro b o hb
    have := (Array.getElem?_eq_some_iff.1 hb).1
    rw [Array.getElem?_push, if_neg (by omega)]; exact hb
  have hcell : ∀ (a : Addr) V, w.cell? a = some V → ({ w with heap := w.heap.push (.cells c e) } : World).cell? a = some V := by
    intro a V hV
    simp only [World.cell?] at hV ⊢
    cases hb : w.heap[a.block]? with
    | none => simp [hb] at hV
    | some o => rw [hsz _ _ hb]; rw [hb] at hV; exact hV
  have hbk : ∀ i, i ≠ k → hasBlk (upd ρ k ⟨w.heap.size, 0, true, c.size, ti.size⟩) (upd h k (.own cs e)) i → hasBlk ρ h i := by
    intro i hi x; unfold hasBlk at *; rwa [upd_ne _ _ hi, upd_ne _ _ hi] at x
  have hhd : ∀ i, i ≠ k → held (upd ρ k ⟨w.heap.size, 0, true, c.size, ti.size⟩) (upd h k (.own cs e)) i → held ρ h i := by
    intro i hi x; unfold held hasBlk at *; rwa [upd_ne _ _ hi, upd_ne _ _ hi] at x
  refine ⟨fun i cs' e' he => ?_, fun i cs' e' he => ?_, fun i j hij hio hjl => ?_⟩
  · by_cases hik : i = k
    · subst hik
      rw [upd_same] at he
      injection he with h1 h2
      subst h1; subst h2
      rw [upd_same]
      exact ⟨rfl, rfl, ⟨ti, hi, rfl⟩, hl, fun _ => ⟨c, by simp, rfl, hr.mono hB (fun _ _ _ hg => hg)⟩⟩
    · rw [upd_ne _ _ hik] at he
      obtain ⟨h1, h2, h3, h4, h5⟩ := s.own i cs' e' he
      rw [upd_ne _ _ hik]
      refine ⟨h1, h2, h3, h4, fun ht => ?_⟩
      obtain ⟨c', h5, h6, h7⟩ := h5 ht
      exact ⟨c', hsz _ _ h5, h6, h7.mono hB (fun _ _ _ hg => hg)⟩
  · have hik : i ≠ k := fun e => by subst e; rw [upd_same] at he; simp at he
    rw [upd_ne _ _ hik] at he ⊢
    obtain ⟨h1, h2⟩ := s.ro i cs' e' he
    exact ⟨h1, h2.mono hB (fun _ _ _ hg => hcell _ _ hg)⟩
  · by_cases hik : i = k
    · subst hik
      have hjk : j ≠ i := fun e => hij e.symm
      rw [upd_same, upd_ne _ _ hjk]
      have := s.held_lt (hhd j hjk hjl)
      simp; omega
    · by_cases hjk : j = k
      · subst hjk
        rw [upd_same, upd_ne _ _ hik]
        have := s.held_lt (.inl (hbk i hik hio))
        simp; omega
      · rw [upd_ne _ _ hjk, upd_ne _ _ hik]
        exact s.inj i j hij (hbk i hik hio) (hhd j hjk hjl)

/-- An object that no memory is wanted for (nothing in it). -/
theorem Sim.allocNone (s : Sim P ρ h w) {k : Nat} (hk : h k = .unborn) (e : TypeId) (ti : TypeInfo) (hi : P.info? e = some ti) (b : Nat) :
    Sim P (upd ρ k ⟨b, 0, true, 0, ti.size⟩) (upd h k (.own [] e)) w := by
  have hB : ∀ i, born h i → born (upd h k (.own [] e)) i ∧ upd ρ k ⟨b, 0, true, 0, ti.size⟩ i = ρ i := by
    intro i hi
    have hne : i ≠ k := fun e => by subst e; simp [born, hk, AObj.born] at hi
    exact ⟨by simpa [born, upd_ne _ _ hne] using hi, upd_ne _ _ hne⟩
  have hbk : ∀ i, hasBlk (upd ρ k ⟨b, 0, true, 0, ti.size⟩) (upd h k (.own [] e)) i → i ≠ k ∧ hasBlk ρ h i := by
    intro i x
    have hi : i ≠ k := fun e => by subst e; simp [hasBlk, upd_same] at x
    unfold hasBlk at *; rw [upd_ne _ _ hi, upd_ne _ _ hi] at x; exact ⟨hi, x⟩
  have hhd : ∀ i, held (upd ρ k ⟨b, 0, true, 0, ti.size⟩) (upd h k (.own [] e)) i → i ≠ k ∧ held ρ h i := by
    intro i x
    have hi : i ≠ k := fun e => by subst e; simp [held, hasBlk, upd_same] at x
    unfold held hasBlk at *; rw [upd_ne _ _ hi, upd_ne _ _ hi] at x; exact ⟨hi, x⟩
  refine ⟨fun i cs' e' he => ?_, fun i cs' e' he => ?_, fun i j hij hio hjl => ?_⟩
  · by_cases hik : i = k
    · subst hik
      rw [upd_same] at he
      injection he with h1 h2
      subst h1; subst h2
      rw [upd_same]
      exact ⟨rfl, rfl, ⟨ti, hi, rfl⟩, Nat.le_refl _, fun h => by simp at h⟩
    · rw [upd_ne _ _ hik] at he
      obtain ⟨h1, h2, h3, h4, h5⟩ := s.own i cs' e' he
      rw [upd_ne _ _ hik]
      refine ⟨h1, h2, h3, h4, fun ht => ?_⟩
      obtain ⟨c', h5, h6, h7⟩ := h5 ht
      exact ⟨c', h5, h6, h7.mono hB (fun _ _ _ hg => hg)⟩
  · have hik : i ≠ k := fun e => by subst e; rw [upd_same] at he; simp at he
    rw [upd_ne _ _ hik] at he ⊢
    obtain ⟨h1, h2⟩ := s.ro i cs' e' he
    exact ⟨h1, h2.mono hB (fun _ _ _ hg => hg)⟩
  · obtain ⟨hik, hio⟩ := hbk i hio
    obtain ⟨hjk, hjl⟩ := hhd j hjl
    rw [upd_ne _ _ hjk, upd_ne _ _ hik]
    exact s.inj i j hij hio hjl

/-- A store of one cell: within the object, or right behind it (it grows by it). -/
theorem Sim.storeAt (s : Sim P ρ h w) {i j : Nat} {cs cs' : List AV} {e : TypeId} (hi : h i = .own cs e) (hj : j < (ρ i).tot) {v : AV} {V : Value} (hv : VRel (born h) ρ v V)
    (hlen : cs'.length ≤ (ρ i).tot) (hcs : ∀ m u, cs'[m]? = some u → (m = j ∧ u = v) ∨ (m ≠ j ∧ cs[m]? = some u)) :
    Sim P ρ (upd h i (.own cs' e)) (w.setCell ⟨(ρ i).blk, j, none⟩ V) := by
  have hB : ∀ l, born h l → born (upd h i (.own cs' e)) l ∧ ρ l = ρ l := fun l hl => ⟨born_own hl, rfl⟩
  have hheap : ∀ b, b ≠ (ρ i).blk → (w.setCell ⟨(ρ i).blk, j, none⟩ V).heap[b]? = w.heap[b]? := by
    intro b hb
    simp only [World.setCell, Array.getElem?_modify]
    rw [if_neg (fun e => hb e.symm)]
  have hib : hasBlk ρ h i := ⟨by simp [hi, AObj.isOwn], by omega⟩
  refine ⟨fun l cs1 e' he => ?_, fun l cs1 e' he => ?_, fun l m hlm hl hm => ?_⟩
  · by_cases hli : l = i
    · subst hli
      rw [upd_same] at he
      injection he with h1 h2
      subst h1; subst h2
      obtain ⟨h1, h2, h3, h4, h5⟩ := s.own l cs e hi
      refine ⟨h1, h2, h3, hlen, fun ht => ?_⟩
      obtain ⟨c, h5, h6, h7⟩ := h5 ht
      refine ⟨c.setIfInBounds j V, ?_, by simpa using h6, ?_⟩
      · simp [World.setCell, Array.getElem?_modify, h5]
      · intro m u hu
        rcases hcs m u hu with ⟨rfl, rfl⟩ | ⟨hm, hu⟩
        · exact ⟨V, by simp [Array.getElem?_setIfInBounds, show m < c.size by omega], hv.mono hB⟩
        · obtain ⟨U, hU, hr⟩ := h7 m u hu
          exact ⟨U, by show (c.setIfInBounds j V)[m]? = some U; rw [Array.getElem?_setIfInBounds_ne (Ne.symm hm)]; exact hU, hr.mono hB⟩
    · rw [upd_ne _ _ hli] at he
      obtain ⟨h1, h2, h3, h4, h5⟩ := s.own l cs1 e' he
      refine ⟨h1, h2, h3, h4, fun ht => ?_⟩
      obtain ⟨c, h5, h6, h7⟩ := h5 ht
      have hne : (ρ l).blk ≠ (ρ i).blk := s.inj l i hli ⟨by simp [he, AObj.isOwn], ht⟩ (.inl hib)
      exact ⟨c, by rw [hheap _ hne]; exact h5, h6, h7.mono hB (fun _ _ _ hg => hg)⟩
  · have hli : l ≠ i := fun e => by subst e; rw [upd_same] at he; simp at he
    rw [upd_ne _ _ hli] at he
    obtain ⟨h1, h2⟩ := s.ro l cs1 e' he
    refine ⟨h1, h2.mono hB (fun m U hm hg => ?_)⟩
    have hne : (ρ l).blk ≠ (ρ i).blk := fun e => s.inj i l (Ne.symm hli) hib (  .inr ⟨cs1, e', he, fun e => by subst e; simp at hm⟩) e.symm
    simp only [World.cell?] at hg ⊢
    rw [hheap _ hne]; exact hg
  · have k1 : ∀ x, hasBlk ρ (upd h i (.own cs' e)) x → hasBlk ρ h x := by
      intro x hx; by_cases e : x = i
      · subst e; exact hib
      · exact hasBlk_upd e hx
    have k2 : ∀ x, held ρ (upd h i (.own cs' e)) x → held ρ h x := by
      intro x hx; by_cases e : x = i
      · subst e; exact .inl hib
      · exact held_upd e hx
    exact s.inj l m hlm (k1 _ hl) (k2 _ hm)

/-- An object that is used no more. -/
theorem Sim.kill (s : Sim P ρ h w) (i : Nat) : Sim P ρ (upd h i .dead) w := by
  have hB : ∀ l, born h l → born (upd h i .dead) l ∧ ρ l = ρ l := fun l hl => ⟨born_dead hl, rfl⟩
  refine ⟨fun l cs' e' he => ?_, fun l cs' e' he => ?_, fun l m hlm hl hm => ?_⟩
  · have hli : l ≠ i := fun e => by subst e; rw [upd_same] at he; simp at he
    rw [upd_ne _ _ hli] at he
    obtain ⟨h1, h2, h3, h4, h5⟩ := s.own l cs' e' he
    refine ⟨h1, h2, h3, h4, fun ht => ?_⟩
    obtain ⟨c, h5, h6, h7⟩ := h5 ht
    exact ⟨c, h5, h6, h7.mono hB (fun _ _ _ hg => hg)⟩
  · have hli : l ≠ i := fun e => by subst e; rw [upd_same] at he; simp at he
    rw [upd_ne _ _ hli] at he
    obtain ⟨h1, h2⟩ := s.ro l cs' e' he
    exact ⟨h1, h2.mono hB (fun _ _ _ hg => hg)⟩
  · have k1 : l ≠ i := fun e => by subst e; simp [hasBlk, upd_same, AObj.isOwn] at hl
    have k2 : m ≠ i := fun e => by subst e; simp [held, hasBlk, upd_same, AObj.isOwn] at hm
    exact s.inj l m hlm (hasBlk_upd k1 hl) (held_upd k2 hm)

/-- An object goes over to a new name. -/
theorem Sim.rename (s : Sim P ρ h w) {i k : Nat} {cs : List AV} {e : TypeId} (hi : h i = .own cs e) (hk : h k = .unborn) :
    Sim P (upd ρ k (ρ i)) (upd (upd h i .dead) k (.own cs e)) w := by
  have hik : i ≠ k := fun e => by subst e; simp [hi] at hk
  have hB : ∀ l, born h l → born (upd (upd h i .dead) k (.own cs e)) l ∧ upd ρ k (ρ i) l = ρ l := by
    intro l hl
    have hlk : l ≠ k := fun e => by subst e; simp [born, hk, AObj.born] at hl
    exact ⟨born_own (born_dead hl), upd_ne _ _ hlk⟩
  have get : ∀ l, l ≠ k → l ≠ i → upd (upd h i .dead) k (.own cs e) l = h l := fun l h1 h2 => by rw [upd_ne _ _ h1, upd_ne _ _ h2]
  have gi : upd (upd h i .dead) k (.own cs e) i = .dead := by rw [upd_ne _ _ hik, upd_same]
  have hbk : ∀ l, hasBlk (upd ρ k (ρ i)) (upd (upd h i .dead) k (.own cs e)) l → l ≠ i ∧ (l = k ∧ hasBlk ρ h i ∨ l ≠ k ∧ hasBlk ρ h l) := by
    intro l x
    have hli : l ≠ i := fun e => by subst e; simp [hasBlk, gi, AObj.isOwn] at x
    by_cases hlk : l = k
    · subst hlk
      exact ⟨hli, .inl ⟨rfl, by simp [hi, AObj.isOwn], by simpa [hasBlk, upd_same] using x.2⟩⟩
    · exact ⟨hli, .inr ⟨hlk, by unfold hasBlk at *; rwa [get l hlk hli, upd_ne _ _ hlk] at x⟩⟩
  have hhd : ∀ l, held (upd ρ k (ρ i)) (upd (upd h i .dead) k (.own cs e)) l → l ≠ i ∧ (l = k ∧ hasBlk ρ h i ∨ l ≠ k ∧ held ρ h l) := by
    intro l x
    rcases x with x | ⟨cs', t, hc, hne⟩
    · obtain ⟨h1, h2⟩ := hbk l x
      exact ⟨h1, h2.imp id fun ⟨a, b⟩ => ⟨a, .inl b⟩⟩
    · have hli : l ≠ i := fun e => by subst e; rw [gi] at hc; simp at hc
      have hlk : l ≠ k := fun e => by subst e; rw [upd_same] at hc; simp at hc
      exact ⟨hli, .inr ⟨hlk, .inr ⟨cs', t, by rwa [get l hlk hli] at hc, hne⟩⟩⟩
  refine ⟨fun l cs' e' he => ?_, fun l cs' e' he => ?_, fun l m hlm hl hm => ?_⟩
  · by_cases hlk : l = k
    · subst hlk
      rw [upd_same] at he
      injection he with h1 h2
      subst h1; subst h2
      obtain ⟨h1, h2, h3, h4, h5⟩ := s.own i cs e hi
      rw [upd_same]
      refine ⟨h1, h2, h3, h4, fun ht => ?_⟩
      obtain ⟨c, h5, h6, h7⟩ := h5 ht
      exact ⟨c, h5, h6, h7.mono hB (fun _ _ _ hg => hg)⟩
    · have hli : l ≠ i := fun e => by subst e; rw [gi] at he; simp at he
      rw [get l hlk hli] at he
      obtain ⟨h1, h2, h3, h4, h5⟩ := s.own l cs' e' he
      rw [upd_ne _ _ hlk]
      refine ⟨h1, h2, h3, h4, fun ht => ?_⟩
      obtain ⟨c, h5, h6, h7⟩ := h5 ht
      exact ⟨c, h5, h6, h7.mono hB (fun _ _ _ hg => hg)⟩
  · have hli : l ≠ i := fun e => by subst e; rw [gi] at he; simp at he
    have hlk : l ≠ k := fun e => by subst e; rw [upd_same] at he; simp at he
    rw [get l hlk hli] at he
    obtain ⟨h1, h2⟩ := s.ro l cs' e' he
    rw [upd_ne _ _ hlk]
    exact ⟨h1, h2.mono hB (fun _ _ _ hg => hg)⟩
  · obtain ⟨hli, hl1⟩ := hbk l hl
    obtain ⟨hmi, hm1⟩ := hhd m hm
    clear hl hm
    rcases hl1 with ⟨rfl, hl1⟩ | ⟨hlk, hl1⟩ <;> rcases hm1 with ⟨rfl, hm1⟩ | ⟨hmk, hm1⟩
    · exact absurd rfl hlm
    · rw [upd_same, upd_ne _ _ hmk]; exact s.inj i m (Ne.symm hmi) hl1 hm1
    · rw [upd_same, upd_ne _ _ hlk]; exact s.inj l i hli hl1 (.inl hm1)
    · rw [upd_ne _ _ hmk, upd_ne _ _ hlk]; exact s.inj l m hlm hl1 hm1
end
end Go.Proofs.Ytbfefpkhalegmaa

set_option linter.unusedVariables false
set_option linter.unusedSimpArgs false
namespace Go.Proofs.Ytbfefpkhalegmaa
open Go

/-- A proof by rfl that simp is to use as a rewriting, so that the kernel has not to find it again. -/
theorem nrf.{u} {α : Sort u} {a b : α} (h : a = b) : a = b := h

/-! ### Continuations: each looks at its first argument alone -/
/-- A mark beside an argument that simp is not to look into. -/
inductive Bx {α : Type} (a : α) : Type where
  | mk : Bx a
def chk (p : Prop) (q : Prop) (_ : Bx q := .mk) : Prop := p ∧ q
def condK (b : Bool) (p q : Prop) (_ : Bx p := .mk) (_ : Bx q := .mk) : Prop := if b then p else q
def optK {α : Type} (o : Option α) (f : α → Prop) : Prop := match o with | some x => f x | none => False
def intK (v : AV) (f : IntKind → Int → Prop) : Prop := match v with | .int k n => f k n | _ => False
def boolK (v : AV) (f : Bool → Prop) : Prop := match v with | .bool b => f b | _ => False
def ptrK (v : AV) (f : Nat → Nat → Prop) : Prop := match v with | .ptr i o => f i o | _ => False
def tupK (v : AV) (f : List AV → Prop) : Prop := match v with | .tup vs => f vs | _ => False
def aggK (v : AV) (f : List AV → Prop) : Prop := match v with | .agg vs => f vs | _ => False
def slK (v : AV) (f : Nat → Nat → Nat → Prop) (n : Prop) (z : Prop) : Prop := match v with | .slice i o l => f i o l | .nilslice => n | .noslice => z | _ => False
def cellsK (o : AObj) (f : List AV → Prop) : Prop := match o with | .own cs _ => f cs | .ro cs _ => f cs | _ => False
def ownK (o : AObj) (f : List AV → TypeId → Prop) : Prop := match o with | .own cs e => f cs e | _ => False

theorem optK_congr {α : Type} (o o' : Option α) (f : α → Prop) (h : o = o') : optK o f = optK o' f := by rw [h]
theorem intK_congr (v v' : AV) (f : IntKind → Int → Prop) (h : v = v') : intK v f = intK v' f := by rw [h]
theorem boolK_congr (v v' : AV) (f : Bool → Prop) (h : v = v') : boolK v f = boolK v' f := by rw [h]
theorem ptrK_congr (v v' : AV) (f : Nat → Nat → Prop) (h : v = v') : ptrK v f = ptrK v' f := by rw [h]
theorem tupK_congr (v v' : AV) (f : List AV → Prop) (h : v = v') : tupK v f = tupK v' f := by rw [h]
theorem aggK_congr (v v' : AV) (f : List AV → Prop) (h : v = v') : aggK v f = aggK v' f := by rw [h]
theorem slK_congr (v v' : AV) (f : Nat → Nat → Nat → Prop) (n z : Prop) (h : v = v') : slK v f n z = slK v' f n z := by rw [h]
theorem cellsK_congr (o o' : AObj) (f : List AV → Prop) (h : o = o') : cellsK o f = cellsK o' f := by rw [h]
theorem ownK_congr (o o' : AObj) (f : List AV → TypeId → Prop) (h : o = o') : ownK o f = ownK o' f := by rw [h]

theorem chk_true (q : Prop) : chk True q = q := by simp [chk]
theorem condK_true (p q : Prop) : condK true p q = p := nrf rfl
theorem condK_false (p q : Prop) : condK false p q = q := nrf rfl
theorem optK_some {α : Type} (x : α) (f : α → Prop) : optK (some x) f = f x := nrf rfl
theorem intK_int (k : IntKind) (n : Int) (f : IntKind → Int → Prop) : intK (.int k n) f = f k n := nrf rfl
theorem boolK_bool (b : Bool) (f : Bool → Prop) : boolK (.bool b) f = f b := nrf rfl
theorem ptrK_ptr (i o : Nat) (f : Nat → Nat → Prop) : ptrK (.ptr i o) f = f i o := nrf rfl
theorem tupK_tup (vs : List AV) (f : List AV → Prop) : tupK (.tup vs) f = f vs := nrf rfl
theorem aggK_agg (vs : List AV) (f : List AV → Prop) : aggK (.agg vs) f = f vs := nrf rfl
theorem slK_slice (i o l : Nat) (f : Nat → Nat → Nat → Prop) (n z : Prop) : slK (.slice i o l) f n z = f i o l := nrf rfl
theorem slK_nil (f : Nat → Nat → Nat → Prop) (n z : Prop) : slK .nilslice f n z = n := nrf rfl
theorem slK_no (f : Nat → Nat → Nat → Prop) (n z : Prop) : slK .noslice f n z = z := nrf rfl
theorem cellsK_own (cs : List AV) (e : TypeId) (f : List AV → Prop) : cellsK (.own cs e) f = f cs := nrf rfl
theorem cellsK_ro (cs : List AV) (e : TypeId) (f : List AV → Prop) : cellsK (.ro cs e) f = f cs := nrf rfl
theorem ownK_own (cs : List AV) (e : TypeId) (f : List AV → TypeId → Prop) : ownK (.own cs e) f = f cs e := nrf rfl

theorem chk_intro {p q : Prop} (h : p) (h' : q) : chk p q := ⟨h, h'⟩
theorem condK_intro {b : Bool} {p q : Prop} (h : b = true → p) (h' : b = false → q) : condK b p q := by
  cases b
  · exact h' rfl
  · exact h rfl

/-! ### Operands -/
def ev (fr : List AV) : Operand → AV
  | .tmp t => fr.getD t .junk
  | .const v => ofVal v
  | .global _ => .junk
  | .func f => .fn (.func f) []

theorem ev_rel {B : Nat → Prop} {ρ : Nat → Pl} {fr : List AV} {a : Act} (h : VsRel B ρ fr a.tmps.toList) (x : Operand) : VRel B ρ (ev fr x) (a.eval x) := by
  cases x with
  | tmp t =>
    simp only [ev, Act.eval]
    cases ht : fr[t]? with
    | none => simp [List.getD, ht]; exact .junk _
    | some v =>
      obtain ⟨V, hV, hr⟩ := h.get t v ht
      have e : a.tmps.getD t undef = V := by
        rw [Array.getElem?_toList] at hV
        simp [Array.getD_eq_getD_getElem?, hV]
      simp only [List.getD, ht, Option.getD_some, e]
      exact hr
  | const v => exact ofVal_rel B ρ v
  | global g => exact .junk _
  | func f => exact .fn _ [] [] .nil

/-! ### Cells of a block, set one behind the other -/
def setCells (cs : List AV) (off : Nat) : List AV → List AV
  | [] => cs
  | v :: vs => setCells (cs.set off v) (off + 1) vs
theorem setCells_nil (cs : List AV) (off : Nat) : setCells cs off [] = cs := nrf rfl
theorem setCells_cons (cs : List AV) (off : Nat) (v : AV) (vs : List AV) : setCells cs off (v :: vs) = setCells (cs.set off v) (off + 1) vs := nrf rfl
theorem setCells_length (vs : List AV) : ∀ (cs : List AV) (off : Nat), (setCells cs off vs).length = cs.length := by
  induction vs with
  | nil => intro cs off; rfl
  | cons v vs ih => intro cs off; rw [setCells_cons, ih, List.length_set]

def fillA (place : Nat → Option (Nat × Nat)) (cs : List AV) : List (Nat × AV) → Option (List AV)
  | [] => some cs
  | (i, v) :: rest => match place i with
    | none => none
    | some (off, size) => if v.solid = true ∧ (cellsOf v).length = size ∧ off + size ≤ cs.length then fillA place (setCells cs off (cellsOf v)) rest else none

/-- Binary operations on whole numbers. -/
def ibin (op : BinOp) (k : IntKind) (a b : Int) (K : AV → Prop) : Prop :=
  match op with
  | .add => K (.int k (k.wrap (a + b)))
  | .sub => K (.int k (k.wrap (a - b)))
  | .mul => K (.int k (k.wrap (a * b)))
  | .quo => chk (b ≠ 0) (K (.int k (k.wrap (a.tdiv b))))
  | .rem => chk (b ≠ 0) (K (.int k (a.tmod b)))
  | .and => K (.int k (k.wrap ((BitVec.ofInt k.bits a &&& BitVec.ofInt k.bits b).toNat)))
  | .or => K (.int k (k.wrap ((BitVec.ofInt k.bits a ||| BitVec.ofInt k.bits b).toNat)))
  | .xor => K (.int k (k.wrap ((BitVec.ofInt k.bits a ^^^ BitVec.ofInt k.bits b).toNat)))
  | .shl => chk (0 ≤ b) (K (.int k (k.wrap (a * 2 ^ (min b.toNat k.bits)))))
  | .shr => chk (0 ≤ b) (K (.int k (a.fdiv (2 ^ (min b.toNat k.bits)))))
  | .eql => K (.bool (a == b))
  | .neq => K (.bool (a != b))
  | .lss => K (.bool (decide (a < b)))
  | .leq => K (.bool (decide (a ≤ b)))
  | .gtr => K (.bool (decide (a > b)))
  | .geq => K (.bool (decide (a ≥ b)))
  | .andNot => False
def isSh : BinOp → Bool | .shl => true | .shr => true | _ => false
def sbin (op : BinOp) (a b : ByteArray) (K : AV → Prop) : Prop :=
  match op with
  | .eql => K (.bool (a.toList == b.toList))
  | .neq => K (.bool (!(a.toList == b.toList)))
  | .lss => K (.bool (Op.bytesLess a.toList b.toList))
  | .geq => K (.bool (!Op.bytesLess a.toList b.toList))
  | _ => False
def abin (op : BinOp) (x y : AV) (K : AV → Prop) : Prop :=
  match x, y with
  | .int k a, .int k' b => if isSh op = true ∨ k = k' then ibin op k a b K else False
  | .str a, .str b => sbin op a b K
  | _, _ => False

theorem abin_int (op : BinOp) (k : IntKind) (a b : Int) (K : AV → Prop) : abin op (.int k a) (.int k b) K = ibin op k a b K := by simp [abin]
theorem abin_shl (k k' : IntKind) (a b : Int) (K : AV → Prop) : abin .shl (.int k a) (.int k' b) K = ibin .shl k a b K := by simp [abin, isSh]
theorem abin_shr (k k' : IntKind) (a b : Int) (K : AV → Prop) : abin .shr (.int k a) (.int k' b) K = ibin .shr k a b K := by simp [abin, isSh]
theorem abin_str (op : BinOp) (a b : ByteArray) (K : AV → Prop) : abin op (.str a) (.str b) K = sbin op a b K := nrf rfl
theorem abin_congr (op : BinOp) (x x' y y' : AV) (K : AV → Prop) (h : x = x') (h' : y = y') : abin op x y K = abin op x' y' K := by rw [h, h']

theorem abin_sound {P : Program} {w : World} {op : BinOp} {t : TypeId} {x y : AV} {X Y : Value} {B : Nat → Prop} {ρ : Nat → Pl} (hx : VRel B ρ x X) (hy : VRel B ρ y Y) {K : AV → Prop}
    (h : abin op x y K) : ∃ v V, (binOp op t X Y).run P w = .ok V w ∧ VRel B ρ v V ∧ K v := by
  cases hx <;> try (simp only [abin] at h)
  case int k a =>
    cases hy <;> try (simp only [abin] at h)
    case int k' b =>
      split at h
      case isFalse => exact h.elim
      case isTrue hk =>
      cases op <;> simp only [ibin, chk, isSh, Bool.false_eq_true, false_or] at h hk
      case add => subst hk; exact ⟨_, _, by simp [binOp, Op.intArith], .int _ _, h⟩
      case sub => subst hk; exact ⟨_, _, by simp [binOp, Op.intArith], .int _ _, h⟩
      case mul => subst hk; exact ⟨_, _, by simp [binOp, Op.intArith], .int _ _, h⟩
      case quo => subst hk; exact ⟨_, _, by simp [binOp, Op.intDiv, h.1], .int _ _, h.2⟩
      case rem => subst hk; exact ⟨_, _, by simp [binOp, Op.intDiv, h.1], .int _ _, h.2⟩
      case and => subst hk; exact ⟨_, _, by simp [binOp, Op.intBits], .int _ _, h⟩
      case or => subst hk; exact ⟨_, _, by simp [binOp, Op.intBits], .int _ _, h⟩
      case xor => subst hk; exact ⟨_, _, by simp [binOp, Op.intBits], .int _ _, h⟩
      case shl => exact ⟨_, _, by simp [binOp, Op.shift, show ¬ b < 0 by omega], .int _ _, h.2⟩
      case shr => exact ⟨_, _, by simp [binOp, Op.shift, show ¬ b < 0 by omega], .int _ _, h.2⟩
      case eql => subst hk; exact ⟨_, _, by simp [binOp, Op.intCmp], .bool _, h⟩
      case neq => subst hk; exact ⟨_, _, by simp [binOp, Op.intCmp], .bool _, h⟩
      case lss => subst hk; exact ⟨_, _, by simp [binOp, Op.intCmp], .bool _, h⟩
      case leq => subst hk; exact ⟨_, _, by simp [binOp, Op.intCmp], .bool _, h⟩
      case gtr => subst hk; exact ⟨_, _, by simp [binOp, Op.intCmp], .bool _, h⟩
      case geq => subst hk; exact ⟨_, _, by simp [binOp, Op.intCmp], .bool _, h⟩
  case str a =>
    cases hy <;> try (simp only [abin] at h)
    case str b =>
      cases op <;> simp only [sbin] at h
      case eql => exact ⟨_, _, by simp [binOp, Op.stringOp], .bool _, h⟩
      case neq => exact ⟨_, _, by simp [binOp, Op.stringOp], .bool _, h⟩
      case lss => exact ⟨_, _, by simp [binOp, Op.stringOp], .bool _, h⟩
      case geq => exact ⟨_, _, by simp [binOp, Op.stringOp], .bool _, h⟩
end Go.Proofs.Ytbfefpkhalegmaa

set_option linter.unusedVariables false
set_option linter.unusedSimpArgs false
namespace Go.Proofs.Ytbfefpkhalegmaa
open Go

def pickv (t : Bool) (a b : AV) : AV := if t then a else b
theorem pickv_true (a b : AV) : pickv true a b = a := nrf rfl
theorem pickv_false (a b : AV) : pickv false a b = b := nrf rfl

def eqT (op : BinOp) (r : Bool) (K : AV → Prop) : Prop := match op with | .eql => K (.bool r) | .neq => K (.bool (!r)) | _ => False
theorem eqT_eql (r : Bool) (K : AV → Prop) : eqT .eql r K = K (.bool r) := nrf rfl
theorem eqT_neq (r : Bool) (K : AV → Prop) : eqT .neq r K = K (.bool (!r)) := nrf rfl
def abin2 (T : TyTab) (op : BinOp) (t : TypeId) (x y : AV) (K : AV → Prop) : Prop :=
  match x, y with
  | .bool a, .bool b => optK (T t) fun ti => match ti.k with | .bool => eqT op (a == b) K | _ => False
  | .ptr _ _, .nilptr => optK (T t) fun ti => match ti.k with | .ptr _ => eqT op false K | _ => False
  | .nilptr, .nilptr => optK (T t) fun ti => match ti.k with | .ptr _ => eqT op true K | _ => False
  | x, y => abin op x y K
theorem abin2_int (T : TyTab) (op : BinOp) (t : TypeId) (k k' : IntKind) (a b : Int) (K : AV → Prop) : abin2 T op t (.int k a) (.int k' b) K = abin op (.int k a) (.int k' b) K := nrf rfl
theorem abin2_str (T : TyTab) (op : BinOp) (t : TypeId) (a b : ByteArray) (K : AV → Prop) : abin2 T op t (.str a) (.str b) K = abin op (.str a) (.str b) K := nrf rfl
theorem abin2_bool (T : TyTab) (op : BinOp) (t : TypeId) (a b : Bool) (K : AV → Prop) : abin2 T op t (.bool a) (.bool b) K = optK (T t) fun ti => match ti.k with | .bool => eqT op (a == b) K | _ => False := nrf rfl
theorem abin2_pn (T : TyTab) (op : BinOp) (t : TypeId) (i o : Nat) (K : AV → Prop) : abin2 T op t (.ptr i o) .nilptr K = optK (T t) fun ti => match ti.k with | .ptr _ => eqT op false K | _ => False := nrf rfl
theorem abin2_nn (T : TyTab) (op : BinOp) (t : TypeId) (K : AV → Prop) : abin2 T op t .nilptr .nilptr K = optK (T t) fun ti => match ti.k with | .ptr _ => eqT op true K | _ => False := nrf rfl
theorem abin2_congr (T : TyTab) (op : BinOp) (t : TypeId) (x x' y y' : AV) (K : AV → Prop) (h : x = x') (h' : y = y') : abin2 T op t x y K = abin2 T op t x' y' K := by rw [h, h']

def aun (op : UnOp) (x : AV) (K : AV → Prop) : Prop :=
  match op, x with
  | .neg, .int k n => K (.int k (k.wrap (0 - n)))
  | .not, .bool b => K (.bool !b)
  | _, _ => False
theorem aun_neg (k : IntKind) (n : Int) (K : AV → Prop) : aun .neg (.int k n) K = K (.int k (k.wrap (0 - n))) := nrf rfl
theorem aun_not (b : Bool) (K : AV → Prop) : aun .not (.bool b) K = K (.bool !b) := nrf rfl
theorem aun_congr (op : UnOp) (x x' : AV) (K : AV → Prop) (h : x = x') : aun op x K = aun op x' K := by rw [h]

def nilK (v : AV) (K : AV → Prop) : Prop := match v with | .ptr i o => K (.ptr i o) | _ => False
theorem nilK_ptr (i o : Nat) (K : AV → Prop) : nilK (.ptr i o) K = K (.ptr i o) := nrf rfl
theorem nilK_congr (v v' : AV) (K : AV → Prop) (h : v = v') : nilK v K = nilK v' K := by rw [h]

/-- The bound of a slice expression: where it is not told, d. -/
def bndK (fr : List AV) (x : Option Operand) (d : Int) (f : Int → Prop) : Prop := match x with | none => f d | some x => intK (ev fr x) fun _ n => f n
theorem bndK_none (fr : List AV) (d : Int) (f : Int → Prop) : bndK fr none d f = f d := nrf rfl
theorem bndK_some (fr : List AV) (x : Operand) (d : Int) (f : Int → Prop) : bndK fr (some x) d f = intK (ev fr x) fun _ n => f n := nrf rfl

def elemIs (o : AObj) (e : TypeId) : Prop := match o with | .own _ e' => e' = e | .ro _ e' => e' = e | _ => False
theorem elemIs_own (cs : List AV) (e e' : TypeId) : elemIs (.own cs e') e = (e' = e) := nrf rfl
theorem elemIs_ro (cs : List AV) (e e' : TypeId) : elemIs (.ro cs e') e = (e' = e) := nrf rfl
def slT (k : TK) (f : TypeId → Prop) : Prop := match k with | .slice e => f e | _ => False
theorem slT_slice (e : TypeId) (f : TypeId → Prop) : slT (.slice e) f = f e := nrf rfl

def aggParts (T : TyTab) (ti : TI) (parts : List (Nat × AV)) (K : List AV → Prop) : Prop :=
  match ti.k with
  | .struct fs => optK (fillA (fun i => (fs[i]?).map (fun f => (f.1, f.2.2))) ti.zero parts) K
  | .arr _ e => optK (T e) fun te => optK (fillA (fun i => some (i * te.size, te.size)) ti.zero parts) K
  | _ => False

def loadK (cs : List AV) (off : Nat) (agg : Bool) (size : Nat) (K : AV → Prop) : Prop :=
  if agg then chk (off + size ≤ cs.length) (K (.agg ((cs.drop off).take size))) else optK cs[off]? K
theorem loadK_agg (cs : List AV) (off size : Nat) (K : AV → Prop) : loadK cs off true size K = chk (off + size ≤ cs.length) (K (.agg ((cs.drop off).take size))) := nrf rfl
theorem loadK_one (cs : List AV) (off size : Nat) (K : AV → Prop) : loadK cs off false size K = optK cs[off]? K := nrf rfl

def astep (T : TyTab) (o : Op) (fr : List AV) (L : List AObj) (K : AV → List AObj → Prop) : Prop :=
  match o with
  | .move x => K (ev fr x) L
  | .assign x => K (ev fr x) L
  | .pick c a b => boolK (ev fr c) fun t => K (pickv t (ev fr a) (ev fr b)) L
  | .alloc t => optK (T t) fun ti => K (.ptr L.length 0) (L ++ [.own ti.zero t])
  | .box t x => optK (T t) fun ti => chk ((ev fr x).solid = true) (K (.ptr L.length 0) (L ++ [.own (cellsOf (ev fr x)) t]))
  | .build t parts => optK (T t) fun ti => aggParts T ti (parts.toList.map fun p => (p.1, ev fr p.2)) fun cs => K (.agg cs) L
  | .buildSlice t n parts => optK (T t) fun ti => slT ti.k fun e => optK (T e) fun te =>
      if n = 0 then K .noslice L else
      chk (n * te.size ≤ 16777216 ∧ 0 < te.size) (optK (fillA (fun i => some (i * te.size, te.size)) (List.replicate n te.zero).flatten (parts.toList.map fun p => (p.1, ev fr p.2))) fun cs =>
        K (.slice L.length 0 n) (L ++ [.own cs e]))
  | .load t x => optK (T t) fun ti => ptrK (ev fr x) fun i off => cellsK (lh L i) fun cs => loadK cs off ti.k.isAgg ti.size fun v => K v L
  | .store t x y => optK (T t) fun ti => ptrK (ev fr x) fun i off => ownK (lh L i) fun cs e =>
      chk ((cellsOf (ev fr y)).length = ti.size ∧ off + ti.size ≤ cs.length ∧ (cellsOf (ev fr y)).all AV.cell1 = true) (K .junk (L.set i (.own (setCells cs off (cellsOf (ev fr y))) e)))
  | .nilCheck x => nilK (ev fr x) fun v => K v L
  | .binOp op t x y _ => abin2 T op t (ev fr x) (ev fr y) fun v => K v L
  | .unOp op _ x => aun op (ev fr x) fun v => K v L
  | .convert s t x => optK (T s) fun si => optK (T t) fun ti => match si.k, ti.k with
      | .int _, .int k => intK (ev fr x) fun _ n => K (.int k (k.wrap n)) L
      | _, _ => False
  | .makeSlice t x y => optK (T t) fun ti => slT ti.k fun e => optK (T e) fun te => intK (ev fr x) fun _ n => intK (ev fr y) fun _ m =>
      chk (0 ≤ n ∧ n = m ∧ n * te.bytes ≤ 281474976710656 ∧ n ≤ 9223372036854775807) (K (.slice L.length 0 n.toNat) (L ++ [.own (List.replicate n.toNat te.zero).flatten e]))
  | .slice t x lo hi none => optK (T t) fun ti => slT ti.k fun e => optK (T e) fun te =>
      slK (ev fr x)
        (fun i off len => bndK fr lo 0 fun l => bndK fr hi len fun r => chk (elemIs (lh L i) e ∧ 0 ≤ l ∧ l ≤ r ∧ r ≤ len) (K (.slice i (off + l.toNat * te.size) (r.toNat - l.toNat)) L))
        (bndK fr lo 0 fun l => bndK fr hi 0 fun r => chk (l = 0 ∧ r = 0) (K .nilslice L))
        (bndK fr lo 0 fun l => bndK fr hi 0 fun r => chk (l = 0 ∧ r = 0) (K .noslice L))
  | .fieldAddr t x f => optK (T t) fun ti => match ti.k with
      | .struct fs => ptrK (ev fr x) fun i off => optK fs[f]? fun fd => chk (fd.2.2 ≠ 0) (K (.ptr i (off + fd.1)) L)
      | _ => False
  | .field t x f => optK (T t) fun ti => match ti.k with
      | .struct fs => aggK (ev fr x) fun cs => optK fs[f]? fun fd => optK (T fd.2.1) fun tf => loadK cs fd.1 tf.k.isAgg tf.size fun v => K v L
      | _ => False
  | .indexAddr t x ix => optK (T t) fun ti => intK (ev fr ix) fun _ n => match ti.k with
      | .slice e => optK (T e) fun te => slK (ev fr x) (fun i off len => chk (0 ≤ n ∧ n < len) (K (.ptr i (off + n.toNat * te.size)) L)) False False
      | .arr m e => optK (T e) fun te => ptrK (ev fr x) fun i off => chk (0 ≤ n ∧ n < m) (K (.ptr i (off + n.toNat * te.size)) L)
      | _ => False
  | .index t x ix => optK (T t) fun ti => intK (ev fr ix) fun _ n => match ti.k with
      | .arr m e => optK (T e) fun te => aggK (ev fr x) fun cs => chk (0 ≤ n ∧ n < m) (loadK cs (n.toNat * te.size) te.k.isAgg te.size fun v => K v L)
      | _ => False
  | .extract x n => tupK (ev fr x) fun vs => optK vs[n]? fun v => K v L
  | .makeFunc f first caps => if first.size = 0 then K (.fn f (caps.toList.map (ev fr))) L else False
  | .call { callee := .builtin .len, args, argTypes } => optK args.toList[0]? fun x => optK argTypes.toList[0]? fun t => optK (T t) fun ti =>
      match ti.k with
      | .slice _ => slK (ev fr x) (fun _ _ len => K (.int .i64 len) L) (K (.int .i64 0) L) (K (.int .i64 0) L)
      | .arr n _ => K (.int .i64 n) L
      | .str => match ev fr x with | .str s => K (.int .i64 s.size) L | _ => False
      | _ => False
  | .call { callee := .builtin .min, args, argTypes } => mm true args.toList fun v => K v L
  | .call { callee := .builtin .max, args, argTypes } => mm false args.toList fun v => K v L
  | .call { callee := .builtin .append, args, argTypes } => optK args.toList[0]? fun x => optK args.toList[1]? fun y => optK argTypes.toList[0]? fun t => optK argTypes.toList[1]? fun t' => optK (T t) fun ti => optK (T t') fun ti' => slT ti'.k fun _ => slT ti.k fun e => optK (T e) fun te =>
      app e te (ev fr x) (ev fr y) L K
  | _ => False
where
  mm (isMin : Bool) (xs : List Operand) (K : AV → Prop) : Prop := match xs with
    | [] => False
    | x :: rest => intK (ev fr x) fun k n => mmGo isMin k n rest K
  mmGo (isMin : Bool) (k : IntKind) (n : Int) (xs : List Operand) (K : AV → Prop) : Prop := match xs with
    | [] => K (.int k n)
    | x :: rest => intK (ev fr x) fun _ m => mmGo isMin k (if isMin then (if m < n then m else n) else (if m > n then m else n)) rest K
  /-- The elements that are appended. -/
  news (y : AV) (te : TI) (L : List AObj) (K : Nat → List AV → Prop) : Prop :=
    slK y (fun i off len => cellsK (lh L i) fun cs => chk (off + len * te.size ≤ cs.length) (K len ((cs.drop off).take (len * te.size)))) (K 0 []) (K 0 [])
  app (e : TypeId) (te : TI) (x y : AV) (L : List AObj) (K : AV → List AObj → Prop) : Prop :=
    slK x
      (fun i off len => ownK (lh L i) fun cs e' => news y te L fun m new =>
        chk (off = 0 ∧ e' = e ∧ len * te.size = cs.length ∧ 0 < te.size ∧ 0 < te.bytes ∧ (len + m) * te.bytes ≤ 140737488355328 ∧ new.all AV.cell1 = true) (K (.slice L.length 0 (len + m)) (L.set i .dead ++ [.own (cs ++ new) e])))
      (news y te L fun m new => chk (0 < te.size ∧ 0 < te.bytes ∧ m * te.bytes ≤ 140737488355328 ∧ new.all AV.cell1 = true) (K (.slice L.length 0 m) (L ++ [.own new e])))
      (news y te L fun m new => chk (0 < te.size ∧ 0 < te.bytes ∧ m * te.bytes ≤ 140737488355328 ∧ new.all AV.cell1 = true) (K (.slice L.length 0 m) (L ++ [.own new e])))
end Go.Proofs.Ytbfefpkhalegmaa

set_option linter.unusedVariables false
set_option linter.unusedSimpArgs false
namespace Go.Proofs.Ytbfefpkhalegmaa
open Go

section
variable {P : Program} {C : Ctx} {ρ ρ' : Nat → Pl} {h h' : Heap} {fr : List AV} {a : Act} {w w' : World}

theorem St.next (s : St P C ρ h fr a w) (sim : Sim P ρ' h' w') (hB : ∀ i, born h i → born h' i ∧ ρ' i = ρ i) {O' : Nat → Prop} (hk : Kept O' w w')
    (hO : ∀ k, O' k → C.O k ∨ C.w0.heap.size ≤ k) (hm : ∀ i, hasBlk ρ' h' i → C.O (ρ' i).blk ∨ C.w0.heap.size ≤ (ρ' i).blk) : St P C ρ' h' fr a w' :=
  ⟨sim, s.fr.mono hB, s.defers, s.kept.trans hk hO, hm, fun i hi => ⟨(hB i (s.old i hi).2).2.trans (s.old i hi).1, (hB i (s.old i hi).2).1⟩⟩

theorem Kept.push (O : Nat → Prop) (w : World) (o : Obj) : Kept O w { w with heap := w.heap.push o } :=
  ⟨rfl, rfl, rfl, by simp, fun k hk _ => by rw [Array.getElem?_push, if_neg (by omega)]⟩
theorem Kept.setCell (w : World) (b o : Nat) (V : Value) : Kept (· = b) w (w.setCell ⟨b, o, none⟩ V) :=
  ⟨rfl, rfl, rfl, by simp [World.setCell], fun k _ hn => by simp only [World.setCell, Array.getElem?_modify]; rw [if_neg (fun e => hn e.symm)]⟩
theorem Kept.drawn (O : Nat → Prop) (w : World) (n : Nat) : Kept O w { w with drawn := n } := ⟨rfl, rfl, rfl, Nat.le_refl _, fun _ _ _ => rfl⟩

theorem Sim.drawn (s : Sim P ρ h w) (n : Nat) : Sim P ρ h { w with drawn := n } := ⟨s.own, s.ro, s.inj⟩
theorem St.drawn (s : St P C ρ h fr a w) (n : Nat) : St P C ρ h fr a { w with drawn := n } :=
  s.next (s.sim.drawn n) (fun i hi => ⟨hi, rfl⟩) (Kept.drawn (fun _ => False) w n) (fun _ h => h.elim) s.mine

/-- A new block. -/
theorem St.alloc (s : St P C ρ h fr a w) {k : Nat} (hk : h k = .unborn) (c : Array Value) (cs : List AV) (e : TypeId) (ti : TypeInfo) (hi : P.info? e = some ti)
    (hl : cs.length ≤ c.size) (hr : CRel (born h) ρ cs (fun j => c[j]?)) :
    St P C (upd ρ k ⟨w.heap.size, 0, true, c.size, ti.size⟩) (upd h k (.own cs e)) fr a { w with heap := w.heap.push (.cells c e) } := by
  refine s.next (s.sim.alloc hk c cs e ti hi hl hr) ?_ (Kept.push (fun _ => False) w _) (fun _ h => h.elim) ?_
  · intro i hi
    have hne : i ≠ k := fun e => by subst e; simp [born, hk, AObj.born] at hi
    exact ⟨born_own hi, upd_ne _ _ hne⟩
  · intro i hi
    by_cases hik : i = k
    · subst hik; rw [upd_same]; exact .inr s.kept.size
    · have : hasBlk ρ h i := by unfold hasBlk at *; rwa [upd_ne _ _ hik, upd_ne _ _ hik] at hi
      rw [upd_ne _ _ hik]; exact s.mine i this

theorem CRel.of_VsRel {B : Nat → Prop} {ρ : Nat → Pl} {cs : List AV} {c : Array Value} (h : VsRel B ρ cs c.toList) : CRel B ρ cs (fun j => c[j]?) := by
  intro j v hv
  obtain ⟨V, hV, hr⟩ := h.get j v hv
  exact ⟨V, by simpa using hV, hr⟩

theorem St.allocL {L : List AObj} (s : St P C ρ (lh L) fr a w) (c : Array Value) (cs : List AV) (e : TypeId) (ti : TypeInfo) (hi : P.info? e = some ti)
    (hr : VsRel (born (lh L)) ρ cs c.toList) :
    ∃ ρ', St P C ρ' (lh (L ++ [.own cs e])) fr a { w with heap := w.heap.push (.cells c e) } ∧ ρ' L.length = ⟨w.heap.size, 0, true, c.size, ti.size⟩ ∧ born (lh (L ++ [.own cs e])) L.length ∧
      (∀ i, born (lh L) i → born (lh (L ++ [.own cs e])) i ∧ ρ' i = ρ i) := by
  have hl : cs.length = c.size := by simpa using hr.length
  refine ⟨_, by rw [lh_append]; exact s.alloc (lh_unborn L) c cs e ti hi (by omega) (.of_VsRel hr), upd_same _ _ _, by rw [lh_append]; simp [born, upd_same, AObj.born], ?_⟩
  intro i hi
  have hne : i ≠ L.length := fun e => by subst e; simp [born, lh_unborn, AObj.born] at hi
  exact ⟨by rw [lh_append]; exact born_own hi, upd_ne _ _ hne⟩

theorem addr_add (b o n : Nat) : (⟨b, o, none⟩ : Addr).add n = ⟨b, o + n, none⟩ := Addr.add_lit b o n

/-- Reading cells. -/
theorem Sim.loadCells (s : Sim P ρ h w) {i : Nat} (hl : (h i).live) (off n : Nat) (hn : off + n ≤ (h i).cells.length) :
    ∃ Vs : List Value, (loadCells ⟨(ρ i).blk, (ρ i).base + off, none⟩ n).run P w = .ok Vs.toArray w ∧ VsRel (born h) ρ (((h i).cells.drop off).take n) Vs := by
  have key : ∀ m, m ≤ n → ∃ Vs : List Value, Vs.length = m ∧ VsRel (born h) ρ (((h i).cells.drop off).take m) Vs ∧ ∀ j v, Vs[j]? = some v → w.cell? (Addr.add ⟨(ρ i).blk, (ρ i).base + off, none⟩ j) = some v := by
    intro m
    induction m with
    | zero => intro _; exact ⟨[], rfl, by simp; exact .nil, by simp⟩
    | succ m ih =>
      intro hm
      obtain ⟨Vs, h1, h2, h3⟩ := ih (by omega)
      have hlt : off + m < (h i).cells.length := by omega
      obtain ⟨V, hV, hr⟩ := s.cell (off := off + m) hl (List.getElem?_eq_getElem hlt)
      refine ⟨Vs ++ [V], by simp [h1], ?_, ?_⟩
      · rw [List.take_succ_eq_append_getElem (by simp; omega)]
        refine h2.append (.cons _ _ _ _ ?_ .nil)
        simpa using hr
      · intro j v hj
        by_cases hjm : j < m
        · rw [List.getElem?_append_left (by omega)] at hj; exact h3 j v hj
        · have hj2 : j = m := by
            have := (List.getElem?_eq_some_iff.1 hj).1
            simp [h1] at this; omega
          subst hj2
          rw [List.getElem?_append_right (by omega)] at hj
          simp [h1] at hj
          subst hj
          rw [addr_add]
          simpa [Nat.add_assoc] using hV
  obtain ⟨Vs, h1, h2, h3⟩ := key n (Nat.le_refl _)
  exact ⟨Vs, by have := run_loadCells_list (P := P) (w := w) _ Vs h3; rw [h1] at this; exact this, h2⟩

/-- Writing cells, one behind the other, within the object or behind it as far as its block goes. -/
theorem Sim.storeCells (cs0 : List AV) {i : Nat} {e : TypeId} : ∀ (vs : List AV) (Vs : List Value) (cs : List AV) (w : World) (h : Heap) (i0 off : Nat), Sim P ρ h w → h i = .own cs e → VsRel (born h) ρ vs Vs →
    (∀ v ∈ vs, v.cell1 = true) → off + i0 + vs.length ≤ cs.length →
    ∃ w', (storeCells ⟨(ρ i).blk, off, none⟩ Vs i0).run P w = .ok () w' ∧ Sim P ρ (upd h i (.own (setCells cs (off + i0) vs) e)) w' ∧ Kept (· = (ρ i).blk) w w' := by
  intro vs
  induction vs with
  | nil =>
    intro Vs cs w h i0 off s hi hr _ _
    cases hr
    refine ⟨w, rfl, ?_, Kept.refl _ _⟩
    have : upd h i (.own cs e) = h := by funext j; by_cases hj : j = i
                                         · subst hj; rw [upd_same, hi]
                                         · rw [upd_ne _ _ hj]
    rw [setCells_nil, this]; exact s
  | cons v vs ih =>
    intro Vs cs w h i0 off s hi hr h1 hl
    cases hr with
    | cons _ V _ Vs hv hs =>
    simp only [List.length_cons] at hl
    obtain ⟨_, hb, _, htot, hx⟩ := s.own i cs e hi
    have hj : off + i0 < (ρ i).tot := by omega
    obtain ⟨c, hc, hcs, hrel⟩ := hx (by omega)
    have s1 := s.storeAt hi hj hv (cs' := cs.set (off + i0) v) (by simpa using htot) (by
      intro m u hu
      by_cases hm : m = off + i0
      · subst hm; rw [List.getElem?_set_self (by omega)] at hu; exact .inl ⟨rfl, (Option.some.inj hu).symm⟩
      · rw [List.getElem?_set_ne (Ne.symm hm)] at hu; exact .inr ⟨hm, hu⟩)
    have hB : ∀ l, born h l → born (upd h i (.own (cs.set (off + i0) v) e)) l ∧ ρ l = ρ l := fun l hl => ⟨born_own hl, rfl⟩
    obtain ⟨w', hrun, s2, k2⟩ := ih Vs (cs.set (off + i0) v) _ _ (i0 + 1) off s1 (upd_same _ _ _) (hs.mono hB) (fun u hu => h1 u (List.mem_cons_of_mem _ hu)) (by simp; omega)
    refine ⟨w', ?_, ?_, (Kept.setCell w _ _ V).trans k2 (fun k hk => .inl hk)⟩
    · have hcell : ∃ U, w.cell? ⟨(ρ i).blk, off + i0, none⟩ = some U := by
        have : off + i0 < cs.length := by omega
        obtain ⟨U, hU, _⟩ := hrel (off + i0) cs[off + i0] (List.getElem?_eq_getElem this)
        exact ⟨U, by simp [World.cell?, hc]; simpa using hU⟩
      obtain ⟨U, hU⟩ := hcell
      have hfz : w.frozen? ⟨(ρ i).blk, off + i0, none⟩ = false := by simp [World.frozen?, hc]
      simp only [Go.storeCells]
      rw [Sem.run_bind, addr_add, run_store _ _ _ _ _ (cell1_rel hv (h1 v (List.mem_cons_self ..)))]
      simp [hU, hfz, hrun]
    · have e1 : ∀ (o1 o2 : AObj), upd (upd h i o1) i o2 = upd h i o2 := by
        intro o1 o2; funext j; by_cases hj : j = i
        · subst hj; simp [upd_same]
        · simp [upd_ne _ _ hj]
      rw [e1] at s2
      rw [setCells_cons, Nat.add_assoc]
      exact s2
end
end Go.Proofs.Ytbfefpkhalegmaa

set_option linter.unusedVariables false
set_option linter.unusedSimpArgs false
namespace Go.Proofs.Ytbfefpkhalegmaa
open Go

section
variable {P : Program} {T : TyTab} {C : Ctx} {ρ ρ' : Nat → Pl} {h h' : Heap} {fr : List AV} {a : Act} {w w' : World}

theorem upd_upd {α : Type} (f : Nat → α) (i : Nat) (x y : α) : upd (upd f i x) i y = upd f i y := by
  funext j; by_cases hj : j = i
  · subst hj; simp [upd_same]
  · simp [upd_ne _ _ hj]

theorem Sim.storeGrow {i : Nat} {e : TypeId} : ∀ (vs : List AV) (Vs : List Value) (cs : List AV) (w : World) (h : Heap) (i0 off : Nat), Sim P ρ h w → h i = .own cs e → VsRel (born h) ρ vs Vs →
    (∀ v ∈ vs, v.cell1 = true) → off + i0 = cs.length → cs.length + vs.length ≤ (ρ i).tot →
    ∃ w', (Go.storeCells ⟨(ρ i).blk, off, none⟩ Vs i0).run P w = .ok () w' ∧ Sim P ρ (upd h i (.own (cs ++ vs) e)) w' ∧ Kept (· = (ρ i).blk) w w' := by
  intro vs
  induction vs with
  | nil =>
    intro Vs cs w h i0 off s hi hr _ _ _
    cases hr
    refine ⟨w, rfl, ?_, Kept.refl _ _⟩
    have : upd h i (.own cs e) = h := by funext j; by_cases hj : j = i
                                         · subst hj; rw [upd_same, hi]
                                         · rw [upd_ne _ _ hj]
    rw [List.append_nil, this]; exact s
  | cons v vs ih =>
    intro Vs cs w h i0 off s hi hr h1 hoff hl
    cases hr with
    | cons _ V _ Vs hv hs =>
    simp only [List.length_cons] at hl
    obtain ⟨_, hb, _, htot, hx⟩ := s.own i cs e hi
    have hj : off + i0 < (ρ i).tot := by omega
    obtain ⟨c, hc, hcs, hrel⟩ := hx (by omega)
    have s1 := s.storeAt hi hj hv (cs' := cs ++ [v]) (by simp; omega) (by
      intro m u hu
      by_cases hm : m = off + i0
      · subst hm; rw [List.getElem?_append_right (by omega)] at hu; simp [hoff] at hu; exact .inl ⟨rfl, hu.symm⟩
      · have hlt : m < cs.length := by
          have := (List.getElem?_eq_some_iff.1 hu).1
          simp at this; omega
        rw [List.getElem?_append_left hlt] at hu; exact .inr ⟨hm, hu⟩)
    have hB : ∀ l, born h l → born (upd h i (.own (cs ++ [v]) e)) l ∧ ρ l = ρ l := fun l hl => ⟨born_own hl, rfl⟩
    obtain ⟨w', hrun, s2, k2⟩ := ih Vs (cs ++ [v]) _ _ (i0 + 1) off s1 (upd_same _ _ _) (hs.mono hB) (fun u hu => h1 u (List.mem_cons_of_mem _ hu)) (by simp; omega) (by simp; omega)
    refine ⟨w', ?_, ?_, (Kept.setCell w _ _ V).trans k2 (fun k hk => .inl hk)⟩
    · have hU : w.cell? ⟨(ρ i).blk, off + i0, none⟩ = some (c[off + i0]'(by omega)) := by simp [World.cell?, hc, show off + i0 < c.size by omega]
      have hfz : w.frozen? ⟨(ρ i).blk, off + i0, none⟩ = false := by simp [World.frozen?, hc]
      simp only [Go.storeCells]
      rw [Sem.run_bind, addr_add, run_store _ _ _ _ _ (cell1_rel hv (h1 v (List.mem_cons_self ..)))]
      simp [hU, hfz, hrun]
    · rw [upd_upd] at s2
      simpa using s2

/-! ### Types -/
theorem TyOk.run_info {t : TypeId} {ti : TI} (k : TyOk P t ti) : ∃ i, P.info? t = some i ∧ i.size = ti.size ∧ (∀ w, (typeInfo t).run P w = .ok i w) ∧ i.bytes = ti.bytes := by
  obtain ⟨i, hi, hs, hb, _⟩ := k.info
  exact ⟨i, hi, hs, fun w => by simp [typeInfo, hi], hb⟩
theorem TyOk.run_sizeOf {t : TypeId} {ti : TI} (k : TyOk P t ti) (w : World) : (sizeOf t).run P w = .ok ti.size w := by
  obtain ⟨i, hi, hs, hr, _⟩ := k.run_info
  simp [sizeOf, hr w, hs]
theorem TyOk.run_zero {t : TypeId} {ti : TI} (k : TyOk P t ti) : ∃ z : Value, (∀ w, (zeroValue t).run P w = .ok z w) ∧ ofVals z.cells.toList = ti.zero := by
  obtain ⟨i, hi, _, _, z, hz, he⟩ := k.info
  exact ⟨z, fun w => by simp [zeroValue, typeInfo, hi, hz], he⟩
theorem TyOk.run_isAgg {t : TypeId} {ti : TI} (k : TyOk P t ti) (w : World) : (isAgg t).run P w = .ok ti.k.isAgg w := by
  obtain ⟨d, hd, hk⟩ := k.desc
  simp only [isAgg, Sem.run_bind, run_underlying hd]
  generalize ti.k = q at hk ⊢
  cases d <;> cases q <;> first | exact hk.elim | simp [TK.isAgg]
theorem TyOk.run_underlying {t : TypeId} {ti : TI} (k : TyOk P t ti) : ∃ d, (∀ w, (underlying t).run P w = .ok d w) ∧ DOk P d ti.k := by
  obtain ⟨d, hd, hk⟩ := k.desc
  exact ⟨d, fun w => Go.run_underlying hd w, hk⟩
theorem TyOk.slice {t e : TypeId} {ti : TI} (k : TyOk P t ti) (hk : ti.k = .slice e) (w : World) : (underlying t).run P w = .ok (.slice e) w := by
  obtain ⟨d, hr, hd⟩ := k.run_underlying
  rw [hk] at hd
  cases d <;> first | exact hd.elim | skip
  simp only [DOk] at hd
  rw [hr, hd]
theorem TyOk.arr {t e : TypeId} {n : Nat} {ti : TI} (k : TyOk P t ti) (hk : ti.k = .arr n e) (w : World) : (underlying t).run P w = .ok (.array n e) w := by
  obtain ⟨d, hr, hd⟩ := k.run_underlying
  rw [hk] at hd
  cases d <;> simp_all [DOk]
theorem TyOk.struct {t : TypeId} {fs : List (Nat × TypeId × Nat)} {ti : TI} (k : TyOk P t ti) (hk : ti.k = .struct fs) : ∃ fields, (∀ w, (underlying t).run P w = .ok (.struct fields) w) ∧
    fields.toList.map (fun f => (f.offset, f.type, (P.info? f.type).map (·.size))) = fs.map (fun x => (x.1, x.2.1, some x.2.2)) := by
  obtain ⟨d, hr, hd⟩ := k.run_underlying
  rw [hk] at hd
  cases d <;> simp_all [DOk]

/-- What one step of an operation leaves. -/
def Stepped (P : Program) (C : Ctx) (fr : List AV) (a : Act) (K : AV → List AObj → Prop) (w : World) (r : Result Next) : Prop :=
  ∃ V w' ρ' v L', (r = .ok (.value V) w' ∨ (r = .ok .skip w' ∧ V = undef)) ∧ St P C ρ' (lh L') fr a w' ∧ VRel (born (lh L')) ρ' v V ∧ K v L'

variable {L : List AObj} {K : AV → List AObj → Prop}

theorem optK_ex {α : Type} {o : Option α} {f : α → Prop} (h : optK o f) : ∃ x, o = some x ∧ f x := by
  cases o with
  | none => exact h.elim
  | some x => exact ⟨x, rfl, h⟩
theorem ptrK_ex {v : AV} {f : Nat → Nat → Prop} (h : ptrK v f) : ∃ i o, v = .ptr i o ∧ f i o := by cases v <;> first | exact ⟨_, _, rfl, h⟩ | exact h.elim
theorem intK_ex {v : AV} {f : IntKind → Int → Prop} (h : intK v f) : ∃ k n, v = .int k n ∧ f k n := by cases v <;> first | exact ⟨_, _, rfl, h⟩ | exact h.elim
theorem boolK_ex {v : AV} {f : Bool → Prop} (h : boolK v f) : ∃ b, v = .bool b ∧ f b := by cases v <;> simp_all [boolK]
theorem aggK_ex {v : AV} {f : List AV → Prop} (h : aggK v f) : ∃ cs, v = .agg cs ∧ f cs := by cases v <;> simp_all [aggK]
theorem tupK_ex {v : AV} {f : List AV → Prop} (h : tupK v f) : ∃ cs, v = .tup cs ∧ f cs := by cases v <;> simp_all [tupK]
theorem cellsK_ex {o : AObj} {f : List AV → Prop} (h : cellsK o f) : o.live ∧ f o.cells := by cases o <;> simp_all [cellsK, AObj.live, AObj.cells]
theorem ownK_ex {o : AObj} {f : List AV → TypeId → Prop} (h : ownK o f) : ∃ cs e, o = .own cs e ∧ f cs e := by cases o <;> first | exact ⟨_, _, rfl, h⟩ | exact h.elim
theorem slT_ex {k : TK} {f : TypeId → Prop} (h : slT k f) : ∃ e, k = .slice e ∧ f e := by cases k <;> simp_all [slT]

theorem VRel.int_inv {B : Nat → Prop} {k : IntKind} {n : Int} {V : Value} (h : VRel B ρ (.int k n) V) : V = .int k n := by cases h; rfl
theorem VRel.bool_inv {B : Nat → Prop} {b : Bool} {V : Value} (h : VRel B ρ (.bool b) V) : V = .bool b := by cases h; rfl
theorem VRel.ptr_inv {B : Nat → Prop} {i o : Nat} {V : Value} (h : VRel B ρ (.ptr i o) V) : B i ∧ V = .pointer (some ⟨(ρ i).blk, (ρ i).base + o, none⟩) := by cases h; exact ⟨‹_›, rfl⟩
theorem VRel.agg_inv {B : Nat → Prop} {cs : List AV} {V : Value} (h : VRel B ρ (.agg cs) V) : ∃ Vs : List Value, V = .agg Vs.toArray ∧ VsRel B ρ cs Vs := by cases h; exact ⟨_, rfl, ‹_›⟩
theorem VRel.tup_inv {B : Nat → Prop} {cs : List AV} {V : Value} (h : VRel B ρ (.tup cs) V) : ∃ Vs : List Value, V = .tuple Vs.toArray ∧ VsRel B ρ cs Vs := by cases h; exact ⟨_, rfl, ‹_›⟩

theorem step_same (s : St P C ρ (lh L) fr a w) {v : AV} {V : Value} (hv : VRel (born (lh L)) ρ v V) (hk : K v L) : Stepped P C fr a K w (.ok (.value V) w) :=
  ⟨V, w, ρ, v, L, .inl rfl, s, hv, hk⟩

theorem step_new (s : St P C ρ (lh L) fr a w) (c : Array Value) (cs : List AV) (e : TypeId) (ti : TypeInfo) (hi : P.info? e = some ti) (hr : VsRel (born (lh L)) ρ cs c.toList)
    (hk : K (.ptr L.length 0) (L ++ [.own cs e])) :
    Stepped P C fr a K w (.ok (.value (.pointer (some ⟨w.heap.size, 0, none⟩))) { w with heap := w.heap.push (.cells c e) }) := by
  obtain ⟨ρ', s', hρ, hb, _⟩ := s.allocL c cs e ti hi hr
  refine ⟨_, _, ρ', _, _, .inl rfl, s', ?_, hk⟩
  have := VRel.ptr (B := born (lh (L ++ [.own cs e]))) (ρ := ρ') L.length 0 hb
  rw [hρ] at this
  exact this

theorem step_newslice (s : St P C ρ (lh L) fr a w) (c : Array Value) (cs : List AV) (e : TypeId) (ti : TypeInfo) (hi : P.info? e = some ti) (hr : VsRel (born (lh L)) ρ cs c.toList) (n : Nat) (hn : n * ti.size = c.size)
    (hk : K (.slice L.length 0 n) (L ++ [.own cs e])) :
    Stepped P C fr a K w (.ok (.value (.slice (some ⟨w.heap.size, 0, none⟩) n n)) { w with heap := w.heap.push (.cells c e) }) := by
  obtain ⟨ρ', s', hρ, hb, _⟩ := s.allocL c cs e ti hi hr
  refine ⟨_, _, ρ', _, _, .inl rfl, s', ?_, hk⟩
  have := VRel.slice (B := born (lh (L ++ [.own cs e]))) (ρ := ρ') L.length 0 n n hb (Nat.le_refl _) (fun _ => by rw [hρ]; simpa using hn)
  rw [hρ] at this
  exact this

/-! ### Loads and stores -/
theorem run_part (T : TyTab) (hT : TOk P T) {t : TypeId} {ti : TI} (ht : T t = some ti) {B : Nat → Prop} {cs : List AV} {Vs : List Value} (hr : VsRel B ρ cs Vs) (off : Nat) {K : AV → Prop}
    (h : loadK cs off ti.k.isAgg ti.size K) : ∃ v V, (part t Vs.toArray off).run P w = .ok V w ∧ VRel B ρ v V ∧ K v := by
  have k := hT t ti ht
  simp only [part, Sem.run_bind, k.run_isAgg, Result.andThen_ok]
  unfold loadK at h
  split at h
  · rename_i ha
    obtain ⟨hl, hk⟩ := h
    have x : VRel B ρ (.agg ((cs.drop off).take ti.size)) (.agg ((Vs.drop off).take ti.size).toArray) := .agg _ _ ((hr.drop off).take _)
    refine ⟨_, _, ?_, x, hk⟩
    simp [ha, k.run_sizeOf, List.extract_eq_take_drop]
  · rename_i ha
    obtain ⟨v, hv, hk⟩ := optK_ex h
    obtain ⟨V, hV, hrel⟩ := hr.get off v hv
    exact ⟨v, V, by simp [ha, hV], hrel, hk⟩

theorem run_loadVar (T : TyTab) (hT : TOk P T) (s : Sim P ρ h w) {t : TypeId} {ti : TI} (ht : T t = some ti) {i off : Nat} (hl : (h i).live) {K : AV → Prop}
    (hk : loadK (h i).cells off ti.k.isAgg ti.size K) : ∃ v V, (loadVar t ⟨(ρ i).blk, (ρ i).base + off, none⟩).run P w = .ok V w ∧ VRel (born h) ρ v V ∧ K v := by
  have k := hT t ti ht
  simp only [loadVar, Sem.run_bind, k.run_isAgg, Result.andThen_ok]
  unfold loadK at hk
  split at hk
  · rename_i ha
    obtain ⟨hle, hk⟩ := hk
    obtain ⟨Vs, hrun, hrel⟩ := s.loadCells hl off ti.size hle
    exact ⟨_, _, by simp [ha, k.run_sizeOf, hrun], .agg _ _ hrel, hk⟩
  · rename_i ha
    obtain ⟨v, hv, hk⟩ := optK_ex hk
    obtain ⟨V, hV, hrel⟩ := s.cell hl hv
    exact ⟨v, V, by simp [ha, run_load, hV], hrel, hk⟩

theorem run_storeVar (T : TyTab) (hT : TOk P T) (s : Sim P ρ h w) {t : TypeId} {ti : TI} (ht : T t = some ti) {i off : Nat} {cs : List AV} {e : TypeId} (hi : h i = .own cs e) {v : AV} {V : Value} (hv : VRel (born h) ρ v V)
    (hn : (cellsOf v).length = ti.size) (hl : off + ti.size ≤ cs.length) (h1 : (cellsOf v).all AV.cell1 = true) :
    ∃ w', (storeVar t ⟨(ρ i).blk, (ρ i).base + off, none⟩ V).run P w = .ok () w' ∧ Sim P ρ (upd h i (.own (setCells cs off (cellsOf v)) e)) w' ∧ Kept (· = (ρ i).blk) w w' := by
  have k := hT t ti ht
  have hsol : v.solid = true := by
    cases v <;> simp_all [AV.solid, cellsOf, AV.cell1]
  have hrel := cellsOf_rel hv hsol
  have hlen : V.cells.size = ti.size := by have := hrel.length; simp at this; omega
  have hbase : (ρ i).base = 0 := (s.own i cs e hi).2.1
  obtain ⟨w', hr, s', k'⟩ := Sim.storeCells (P := P) cs (cellsOf v) V.cells.toList cs w h 0 off s hi hrel (by simpa using h1) (by omega)
  refine ⟨w', ?_, by simpa using s', k'⟩
  simp only [storeVar, Sem.run_bind, k.run_sizeOf, Result.andThen_ok, hlen, hbase, Nat.zero_add]
  simpa using hr
end
end Go.Proofs.Ytbfefpkhalegmaa

set_option linter.unusedVariables false
set_option linter.unusedSimpArgs false
namespace Go.Proofs.Ytbfefpkhalegmaa
open Go

section
variable {P : Program} {T : TyTab} {C : Ctx} {ρ ρ' : Nat → Pl} {h h' : Heap} {fr : List AV} {a : Act} {w w' : World} {L : List AObj} {K : AV → List AObj → Prop}

/-- What a Sem that gives a value comes to, as a step. -/
def SemK (P : Program) (C : Ctx) (fr : List AV) (a : Act) (K : AV → List AObj → Prop) (x : Sem Value) (w : World) : Prop :=
  ∃ V w' ρ' v L', x.run P w = .ok V w' ∧ St P C ρ' (lh L') fr a w' ∧ VRel (born (lh L')) ρ' v V ∧ K v L'

theorem SemK.same (s : St P C ρ (lh L) fr a w) {x : Sem Value} {V : Value} (hx : x.run P w = .ok V w) {v : AV} (hv : VRel (born (lh L)) ρ v V) (hk : K v L) : SemK P C fr a K x w :=
  ⟨V, w, ρ, v, L, hx, s, hv, hk⟩
theorem SemK.new (s : St P C ρ (lh L) fr a w) {x : Sem Value} (c : Array Value) (cs : List AV) (e : TypeId) (ti : TypeInfo) (hi : P.info? e = some ti) (hr : VsRel (born (lh L)) ρ cs c.toList)
    (hx : x.run P w = .ok (.pointer (some ⟨w.heap.size, 0, none⟩)) { w with heap := w.heap.push (.cells c e) }) (hk : K (.ptr L.length 0) (L ++ [.own cs e])) : SemK P C fr a K x w := by
  obtain ⟨ρ', s', hρ, hb, _⟩ := s.allocL c cs e ti hi hr
  refine ⟨_, _, ρ', _, _, hx, s', ?_, hk⟩
  have := VRel.ptr (B := born (lh (L ++ [.own cs e]))) (ρ := ρ') L.length 0 hb
  rw [hρ] at this
  exact this
theorem SemK.newSlice (s : St P C ρ (lh L) fr a w) {x : Sem Value} (c : Array Value) (cs : List AV) (e : TypeId) (ti : TypeInfo) (hi : P.info? e = some ti) (hr : VsRel (born (lh L)) ρ cs c.toList) (n : Nat) (hn : n * ti.size = c.size)
    (hx : x.run P w = .ok (.slice (some ⟨w.heap.size, 0, none⟩) n n) { w with heap := w.heap.push (.cells c e) }) (hk : K (.slice L.length 0 n) (L ++ [.own cs e])) : SemK P C fr a K x w := by
  obtain ⟨ρ', s', hρ, hb, _⟩ := s.allocL c cs e ti hi hr
  refine ⟨_, _, ρ', _, _, hx, s', ?_, hk⟩
  have := VRel.slice (B := born (lh (L ++ [.own cs e]))) (ρ := ρ') L.length 0 n n hb (Nat.le_refl _) (fun _ => by rw [hρ]; simpa using hn)
  rw [hρ] at this
  exact this

theorem fill_sound {B : Nat → Prop} (place : Nat → Option (Nat × Nat)) : ∀ (ps : List (Nat × AV)) (Ps : List (Nat × Value)) (cs : List AV) (Cs : Array Value) (r : List AV),
    Ps.map (·.1) = ps.map (·.1) → (∀ (j : Nat) (p : Nat × AV) (q : Nat × Value), ps[j]? = some p → Ps[j]? = some q → VRel B ρ p.2 q.2) → VsRel B ρ cs Cs.toList → fillA place cs ps = some r →
    ∃ R, Instr.fill place Cs Ps = some R ∧ VsRel B ρ r R.toList := by
  intro ps
  induction ps with
  | nil =>
    intro Ps cs Cs r hm _ hc hf
    cases Ps with
    | nil => simp [fillA] at hf; subst hf; exact ⟨Cs, rfl, hc⟩
    | cons q Ps => simp at hm
  | cons p ps ih =>
    intro Ps cs Cs r hm hrel hc hf
    cases Ps with
    | nil => simp at hm
    | cons q Ps =>
      obtain ⟨i, v⟩ := p
      obtain ⟨i', V⟩ := q
      simp only [List.map_cons, List.cons.injEq] at hm
      obtain ⟨rfl, hm⟩ := hm
      simp only [fillA] at hf
      cases hp : place i' with
      | none => simp [hp] at hf
      | some os =>
        obtain ⟨off, size⟩ := os
        simp only [hp] at hf
        split at hf
        case isFalse => simp at hf
        case isTrue hcond =>
        obtain ⟨hsol, hlen, hle⟩ := hcond
        have hv := cellsOf_rel (hrel 0 (i', v) (i', V) rfl rfl) hsol
        have hVlen : V.cells.size = size := by have := hv.length; simp at this; omega
        have hcl : cs.length = Cs.size := by simpa using hc.length
        have hset : ∀ (us : List AV) (Us : List Value) (k : Nat) (cs : List AV) (Cs : Array Value), VsRel B ρ us Us → VsRel B ρ cs Cs.toList →
            VsRel B ρ (setCells cs (off + k) us) ((Us.zipIdx k).foldl (fun (cs : Array Value) (p : Value × Nat) => cs.setIfInBounds (off + p.2) p.1) Cs).toList := by
          intro us
          induction us with
          | nil => intro Us k cs Cs h1 h2; cases h1; simpa [setCells_nil] using h2
          | cons u us ih2 =>
            intro Us k cs Cs h1 h2
            cases h1 with
            | cons _ U _ Us hu hus =>
              rw [setCells_cons, List.zipIdx_cons, List.foldl_cons, Nat.add_assoc]
              refine ih2 Us (k + 1) _ _ hus ?_
              simpa [Array.toList_setIfInBounds] using h2.set (off + k) hu
        obtain ⟨R, hR, hRr⟩ := ih Ps _ _ r hm (fun j p q h1 h2 => hrel (j + 1) p q (by simpa using h1) (by simpa using h2)) (hset _ _ 0 cs Cs hv hc) hf
        refine ⟨R, ?_, hRr⟩
        simp only [Instr.fill, hp]
        rw [if_neg (by simp; omega)]
        rw [← Array.foldl_toList, Array.toList_zipIdx]
        exact hR

theorem run_mapM {α β : Type} (f : α → Sem β) (g : α → β) : ∀ (xs : List α), (∀ x ∈ xs, ∀ w, (f x).run P w = .ok (g x) w) → ∀ w, (xs.mapM f).run P w = .ok (xs.map g) w := by
  intro xs
  induction xs with
  | nil => intro _ w; simp
  | cons x xs ih =>
    intro h w
    rw [List.mapM_cons]
    simp [h x (List.mem_cons_self ..), ih (fun y hy => h y (List.mem_cons_of_mem _ hy))]

theorem run_amapM {α β : Type} (f : α → Sem β) (g : α → β) (xs : Array α) (h : ∀ x ∈ xs, ∀ w, (f x).run P w = .ok (g x) w) (w : World) : (xs.mapM f).run P w = .ok (xs.map g) w := by
  rw [Array.mapM_eq_mapM_toList]
  simp only [Sem.run_map]
  rw [run_mapM f g xs.toList (by simpa using h)]
  simp only [Result.andThen_ok]
  congr 1
  apply Array.ext'
  simp

/-- The places of a struct's fields, as the model reckons them. -/
theorem run_places {fields : Array Field} {fs : List (Nat × TypeId × Nat)} (hf : fields.toList.map (fun f => (f.offset, f.type, (P.info? f.type).map (·.size))) = fs.map fun x => (x.1, x.2.1, some x.2.2)) (w : World) :
    (fields.mapM (m := Sem) fun f => do pure (f.offset, ← sizeOf f.type)).run P w = .ok (fs.map fun x => (x.1, x.2.2)).toArray w := by
  have hsz : ∀ f ∈ fields, ∃ n, (P.info? f.type).map (·.size) = some n := by
    intro f hm
    have : (f.offset, f.type, (P.info? f.type).map (·.size)) ∈ fs.map fun x => (x.1, x.2.1, some x.2.2) := by
      rw [← hf]; exact List.mem_map.2 ⟨f, by simpa using hm, rfl⟩
    obtain ⟨x, _, hx⟩ := List.mem_map.1 this
    simp only [Prod.mk.injEq] at hx
    exact ⟨x.2.2, hx.2.2.symm⟩
  rw [run_amapM _ (fun f => (f.offset, ((P.info? f.type).map (·.size)).getD 0))]
  · congr 1
    apply Array.ext'
    simp only [Array.toList_map]
    have e : fields.toList.map (fun f => (f.offset, ((P.info? f.type).map (·.size)).getD 0)) = (fields.toList.map (fun f => (f.offset, f.type, (P.info? f.type).map (·.size)))).map (fun y => (y.1, y.2.2.getD 0)) := by
      simp [Function.comp_def]
    rw [e, hf]
    simp [Function.comp_def]
  · intro f hm w
    obtain ⟨n, hn⟩ := hsz f hm
    cases hi : P.info? f.type with
    | none => simp [hi] at hn
    | some i => simp [sizeOf, typeInfo, hi]

theorem parts_rel (hr : VsRel (born h) ρ fr a.tmps.toList) (parts : Array (Nat × Operand)) :
    ((parts.map fun (i, x) => (i, a.eval x)).toList.map (·.1) = (parts.toList.map fun p => (p.1, ev fr p.2)).map (·.1)) ∧
    ∀ (j : Nat) (p : Nat × AV) (q : Nat × Value), (parts.toList.map fun p => (p.1, ev fr p.2))[j]? = some p → (parts.map fun (i, x) => (i, a.eval x)).toList[j]? = some q → VRel (born h) ρ p.2 q.2 := by
  refine ⟨by simp [Function.comp_def], fun j p q hp hq => ?_⟩
  simp only [Array.toList_map, List.getElem?_map] at hp hq
  cases hx : parts.toList[j]? with
  | none => simp [hx] at hp
  | some x =>
    simp only [hx, Option.map_some, Option.some.injEq] at hp hq
    subst hp; subst hq
    exact ev_rel hr x.2

theorem astep_build (hT : TOk P T) (s : St P C ρ (lh L) fr a w) (t : TypeId) (parts : Array (Nat × Operand)) (hk : astep T (.build t parts) fr L K) :
    SemK P C fr a K (Instr.build t (parts.map fun (i, x) => (i, a.eval x))) w := by
  simp only [astep] at hk
  obtain ⟨ti, ht, hk⟩ := optK_ex hk
  have k := hT t ti ht
  obtain ⟨z, hz, hzr⟩ := k.run_zero
  have hz0 : VsRel (born (lh L)) ρ ti.zero z.cells.toList := by rw [← hzr]; exact ofVals_rel _ _ _
  obtain ⟨hm, hrel⟩ := parts_rel s.fr parts
  unfold aggParts at hk
  split at hk
  · rename_i fs hfs
    obtain ⟨cs, hcs, hk⟩ := optK_ex hk
    obtain ⟨fields, hu, hf⟩ := k.struct hfs
    obtain ⟨R, hR, hRr⟩ := fill_sound _ _ _ _ _ _ hm hrel hz0 hcs
    refine SemK.same s (V := .agg R) ?_ (by have := VRel.agg (ρ := ρ) cs R.toList hRr; simpa using this) hk
    simp only [Instr.build, Sem.run_bind, hz, hu, Result.andThen_ok, run_places hf]
    have e : (fun (i : Nat) => (fs.map fun x => (x.1, x.2.2)).toArray[i]?) = fun (i : Nat) => (fs[i]?).map (fun (f : Nat × TypeId × Nat) => (f.1, f.2.2)) := by
      funext i; simp
    rw [e, hR]
    simp
  · rename_i n e hfs
    obtain ⟨te, hte, hk⟩ := optK_ex hk
    obtain ⟨cs, hcs, hk⟩ := optK_ex hk
    obtain ⟨R, hR, hRr⟩ := fill_sound _ _ _ _ _ _ hm hrel hz0 hcs
    refine SemK.same s (V := .agg R) ?_ (by have := VRel.agg (ρ := ρ) cs R.toList hRr; simpa using this) hk
    simp only [Instr.build, Sem.run_bind, hz, k.arr hfs, Result.andThen_ok, (hT e te hte).run_sizeOf]
    rw [hR]
    simp
  · exact hk.elim

theorem zeros_get (zero : Array Value) (n : Nat) (hz : 0 < zero.size) : ((Array.range (n * zero.size)).map (zero[· % zero.size]!)).toList = (List.replicate n zero.toList).flatten := by
  simp only [Array.toList_map, Array.toList_range]
  induction n with
  | zero => simp
  | succ n ih =>
    rw [Nat.succ_mul, List.range_add, List.map_append, ih, List.replicate_succ', List.flatten_append]
    congr 1
    simp only [List.map_map, List.flatten_cons, List.flatten_nil, List.append_nil]
    apply List.ext_getElem
    · simp
    · intro j h1 h2
      have hj : j < zero.size := by simpa using h1
      have e : (n * zero.size + j) % zero.size = j := by rw [Nat.mul_comm, Nat.mul_add_mod]; exact Nat.mod_eq_of_lt hj
      simp [e, hj]

theorem VsRel.flatten {B : Nat → Prop} {vs : List AV} {Vs : List Value} (hr : VsRel B ρ vs Vs) (n : Nat) : VsRel B ρ (List.replicate n vs).flatten (List.replicate n Vs).flatten := by
  induction n with
  | zero => exact .nil
  | succ n ih => rw [List.replicate_succ, List.replicate_succ, List.flatten_cons, List.flatten_cons]; exact hr.append ih

theorem astep_buildSlice (hT : TOk P T) (s : St P C ρ (lh L) fr a w) (t : TypeId) (n : Nat) (parts : Array (Nat × Operand)) (hk : astep T (.buildSlice t n parts) fr L K)
    (hp0 : n = 0 → parts = #[]) :
    SemK P C fr a K (Instr.buildSlice t n (parts.map fun (i, x) => (i, a.eval x))) w := by
  simp only [astep] at hk
  obtain ⟨ti, ht, hk⟩ := optK_ex hk
  obtain ⟨e, he, hk⟩ := slT_ex hk
  obtain ⟨te, hte, hK⟩ := optK_ex hk
  clear hk
  have k := hT t ti ht
  have ke := hT e te hte
  obtain ⟨z, hz, hzr⟩ := ke.run_zero
  by_cases hn : n = 0
  · rw [if_pos hn] at hK
    subst hn
    refine ⟨_, { w with heap := w.heap.push (.cells #[] e) }, ρ, _, _, ?_, ?_, .noslice ⟨w.heap.size, 0, none⟩, hK⟩
    · simp only [Instr.buildSlice, Sem.run_bind, k.slice he, ke.run_sizeOf, Result.andThen_ok, Nat.zero_mul]
      rw [hp0 rfl]
      have e0 : Array.range 0 = #[] := by apply Array.ext'; simp
      simp [Instr.fill, newRow, e0]
    · exact s.next ⟨fun i cs e' hi => by
        obtain ⟨h1, h2, h3, h4, h5⟩ := s.sim.own i cs e' hi
        refine ⟨h1, h2, h3, h4, fun ht => ?_⟩
        obtain ⟨c, h5, h6⟩ := h5 ht
        have := (Array.getElem?_eq_some_iff.1 h5).1
        exact ⟨c, by rw [Array.getElem?_push, if_neg (by omega)]; exact h5, h6⟩, fun i cs e' hi => by
        obtain ⟨h1, h2⟩ := s.sim.ro i cs e' hi
        refine ⟨h1, h2.mono (fun i hi => ⟨hi, rfl⟩) fun j V _ hg => ?_⟩
        simp only [World.cell?] at hg ⊢
        cases hb : w.heap[(ρ i).blk]? with
        | none => simp [hb] at hg
        | some o =>
          have := (Array.getElem?_eq_some_iff.1 hb).1
          rw [Array.getElem?_push, if_neg (by omega), hb]; rw [hb] at hg; exact hg, s.sim.inj⟩ (fun i hi => ⟨hi, rfl⟩) (Kept.push (fun _ => False) w _) (fun _ h => h.elim) s.mine
  · rw [if_neg hn] at hK
    obtain ⟨⟨hle, hpos⟩, hK⟩ := hK
    obtain ⟨cs, hcs, hK⟩ := optK_ex hK
    obtain ⟨hm, hrel⟩ := parts_rel s.fr parts
    have hzl : z.cells.size = te.size := by
      have h1 := ke.zlen
      have h2 := (ofVals_rel (born (lh L)) ρ z.cells.toList).length
      rw [hzr] at h2; simp at h2; omega
    have hz0 : VsRel (born (lh L)) ρ (List.replicate n te.zero).flatten ((Array.range (n * te.size)).map (z.cells[· % z.cells.size]!)).toList := by
      rw [← hzl, zeros_get _ _ (by omega), ← hzr]
      exact (ofVals_rel _ _ _).flatten n
    obtain ⟨R, hR, hRr⟩ := fill_sound _ _ _ _ _ _ hm hrel hz0 hcs
    obtain ⟨i, hi, hsz, _⟩ := ke.run_info
    have hRs : R.size = n * te.size := by
      have h1 := hRr.length
      have h2 : ∀ (place : Nat → Option (Nat × Nat)) (ps : List (Nat × AV)) (cs r : List AV), fillA place cs ps = some r → r.length = cs.length := by
        intro place ps
        induction ps with
        | nil => intro cs r hf; simp [fillA] at hf; rw [hf]
        | cons p ps ih =>
          intro cs r hf
          obtain ⟨i, v⟩ := p
          simp only [fillA] at hf
          cases hp : place i with
          | none => simp [hp] at hf
          | some os =>
            obtain ⟨off, size⟩ := os
            simp only [hp] at hf
            split at hf
            · rw [ih _ _ hf, setCells_length]
            · simp at hf
      have h3 := h2 _ _ _ _ hcs
      have h4 : (List.replicate n te.zero).flatten.length = n * te.size := by simp [ke.zlen]
      simp at h1; omega
    refine SemK.newSlice s R cs e i hi hRr n (by rw [hsz, hRs]) ?_ hK
    simp only [Instr.buildSlice, Sem.run_bind, k.slice he, ke.run_sizeOf, Result.andThen_ok]
    rw [if_neg (by omega), if_neg (by have := Nat.mul_pos (Nat.pos_of_ne_zero hn) hpos; omega)]
    simp only [Sem.run_bind, hz, Result.andThen_ok, Sem.run_pure, hR]
    simp [newRow, hR]
end
end Go.Proofs.Ytbfefpkhalegmaa

set_option linter.unusedVariables false
set_option linter.unusedSimpArgs false
namespace Go.Proofs.Ytbfefpkhalegmaa
open Go

section
variable {P : Program} {T : TyTab} {C : Ctx} {ρ ρ' : Nat → Pl} {h h' : Heap} {fr : List AV} {a : Act} {w w' : World} {L : List AObj} {K : AV → List AObj → Prop}

theorem sure_ptr (ρ : Nat → Pl) (i o : Nat) (w : World) : (Instr.sureAddr (.pointer (some ⟨(ρ i).blk, (ρ i).base + o, none⟩))).run P w = .ok ⟨(ρ i).blk, (ρ i).base + o, none⟩ w := rfl

theorem astep_load (hT : TOk P T) (s : St P C ρ (lh L) fr a w) (t : TypeId) (x : Operand) (hk : astep T (.load t x) fr L K) : SemK P C fr a K (Instr.loadAt t (a.eval x)) w := by
  simp only [astep] at hk
  obtain ⟨ti, ht, k1⟩ := optK_ex hk
  obtain ⟨i, o, hx, k2⟩ := ptrK_ex k1
  obtain ⟨hl, k3⟩ := cellsK_ex k2
  have hrel := ev_rel s.fr x
  rw [hx] at hrel
  obtain ⟨hb, hV⟩ := hrel.ptr_inv
  obtain ⟨v, V, hr, hrv, hkv⟩ := run_loadVar T hT s.sim ht hl k3
  exact SemK.same s (by simp only [Instr.loadAt, Sem.run_bind, hV, sure_ptr, Result.andThen_ok, hr]) hrv hkv

theorem Kept.mono {O O' : Nat → Prop} (h : Kept O w w') (hO : ∀ k, O k → O' k) : Kept O' w w' := ⟨h.os, h.tape, h.output, h.size, fun k hk hn => h.block k hk fun ho => hn (hO k ho)⟩

theorem St.wrote (s : St P C ρ (lh L) fr a w) {i : Nat} {cs cs' : List AV} {e : TypeId} (hi : lh L i = .own cs e) (s' : Sim P ρ (upd (lh L) i (.own cs' e)) w') (k' : Kept (· = (ρ i).blk) w w') (ht : 0 < (ρ i).tot ∨ w' = w) :
    St P C ρ (lh (L.set i (.own cs' e))) fr a w' := by
  have hlt : i < L.length := by
    by_cases hlt : i < L.length
    · exact hlt
    · simp [lh, List.getElem?_eq_none (Nat.le_of_not_lt hlt)] at hi
  rw [lh_set L i _ hlt]
  rcases ht with ht | ht
  · have hib : hasBlk ρ (lh L) i := ⟨by simp [hi, AObj.isOwn], ht⟩
    refine s.next s' (fun l hl => ⟨born_own hl, rfl⟩) k' (fun k hk => by subst hk; exact s.mine i hib) ?_
    intro l hl
    by_cases hli : l = i
    · subst hli; exact s.mine l hib
    · exact s.mine l (hasBlk_upd hli hl)
  · subst ht
    refine s.next s' (fun l hl => ⟨born_own hl, rfl⟩) (Kept.refl (fun _ => False) w') (fun _ h => h.elim) ?_
    intro l hl
    by_cases hli : l = i
    · subst hli; exact s.mine l ⟨by simp [hi, AObj.isOwn], hl.2⟩
    · exact s.mine l (hasBlk_upd hli hl)

theorem astep_store (hT : TOk P T) (s : St P C ρ (lh L) fr a w) (t : TypeId) (x y : Operand) (hk : astep T (.store t x y) fr L K) :
    ∃ w' L', (Instr.storeAt t (a.eval x) (a.eval y)).run P w = .ok () w' ∧ St P C ρ (lh L') fr a w' ∧ K .junk L' := by
  simp only [astep] at hk
  obtain ⟨ti, ht, k1⟩ := optK_ex hk
  obtain ⟨i, o, hx, k2⟩ := ptrK_ex k1
  obtain ⟨cs, e, hi, ⟨hlen, hle, h1⟩, k3⟩ := ownK_ex k2
  have hrel := ev_rel s.fr x
  rw [hx] at hrel
  obtain ⟨hb, hV⟩ := hrel.ptr_inv
  obtain ⟨w', hr, s', k'⟩ := run_storeVar T hT s.sim ht hi (ev_rel s.fr y) hlen hle h1
  refine ⟨w', _, by simp only [Instr.storeAt, Sem.run_bind, hV, sure_ptr, Result.andThen_ok, hr], s.wrote hi s' k' ?_, k3⟩
  by_cases h0 : 0 < (ρ i).tot
  · exact .inl h0
  · right
    obtain ⟨_, _, _, htot, _⟩ := s.sim.own i cs e hi
    have hz : ti.size = 0 := by omega
    have hnil : cellsOf (ev fr y) = [] := List.eq_nil_of_length_eq_zero (by omega)
    have hsol : (ev fr y).solid = true := by
      cases hy : ev fr y <;> simp_all [AV.solid, cellsOf]
    have hVs := (cellsOf_rel (ev_rel s.fr y) hsol).length
    have hz2 : (a.eval y).cells.size = 0 := by simp [hnil] at hVs; simpa using hVs.symm
    have : (storeVar t ⟨(ρ i).blk, (ρ i).base + o, none⟩ (a.eval y)).run P w = .ok () w := by
      simp only [storeVar, Sem.run_bind, (hT t ti ht).run_sizeOf, Result.andThen_ok, hz, hz2]
      have : (a.eval y).cells.toList = [] := by simpa using hz2
      simp [this, Go.storeCells]
    rw [this] at hr
    injection hr with _ hr
    exact hr.symm

theorem nilK_ex {v : AV} {K : AV → Prop} (h : nilK v K) : ∃ i o, v = .ptr i o ∧ K (.ptr i o) := by cases v <;> first | exact ⟨_, _, rfl, h⟩ | exact h.elim

theorem astep_fieldAddr (hT : TOk P T) (s : St P C ρ (lh L) fr a w) (t : TypeId) (x : Operand) (f : Nat) (hk : astep T (.fieldAddr t x f) fr L K) : SemK P C fr a K (Instr.fieldAt t (a.eval x) f) w := by
  simp only [astep] at hk
  obtain ⟨ti, ht, k1⟩ := optK_ex hk
  split at k1
  case h_2 => exact k1.elim
  case h_1 fs hfs =>
  obtain ⟨i, o, hx, k2⟩ := ptrK_ex k1
  obtain ⟨fd, hfd, hne, k3⟩ := optK_ex k2
  have hrel := ev_rel s.fr x
  rw [hx] at hrel
  obtain ⟨hb, hV⟩ := hrel.ptr_inv
  obtain ⟨fields, hu, hf⟩ := (hT t ti ht).struct hfs
  have hget : (fields.toList.map (fun f => (f.offset, f.type, (P.info? f.type).map (·.size))))[f]? = some (fd.1, fd.2.1, some fd.2.2) := by rw [hf]; simp [hfd]
  simp only [List.getElem?_map] at hget
  cases hfl : fields.toList[f]? with
  | none => simp [hfl] at hget
  | some fl =>
    simp only [hfl, Option.map_some, Option.some.injEq, Prod.mk.injEq] at hget
    obtain ⟨ho, hty, hsz⟩ := hget
    have hfl' : fields[f]? = some fl := by simpa using hfl
    have hp := VRel.ptr (B := born (lh L)) (ρ := ρ) i (o + fd.1) hb
    refine SemK.same s ?_ hp k3
    cases hi : P.info? fl.type with
    | none => simp [hi] at hsz
    | some ti' =>
      simp [hi] at hsz
      simp only [Instr.fieldAt, Sem.run_bind, hu, Result.andThen_ok, hfl', hV, sure_ptr, fieldPlace]
      simp [sizeOf, typeInfo, hi, hsz, hne, addr_add, ho, Nat.add_assoc]

theorem astep_field (hT : TOk P T) (s : St P C ρ (lh L) fr a w) (t : TypeId) (x : Operand) (f : Nat) (hk : astep T (.field t x f) fr L K) : SemK P C fr a K (Instr.field t (a.eval x) f) w := by
  simp only [astep] at hk
  obtain ⟨ti, ht, k1⟩ := optK_ex hk
  split at k1
  case h_2 => exact k1.elim
  case h_1 fs hfs =>
  obtain ⟨cs, hx, k2⟩ := aggK_ex k1
  obtain ⟨fd, hfd, k3⟩ := optK_ex k2
  obtain ⟨tf, htf, k4⟩ := optK_ex k3
  have hrel := ev_rel s.fr x
  rw [hx] at hrel
  obtain ⟨Vs, hV, hVs⟩ := hrel.agg_inv
  obtain ⟨fields, hu, hf⟩ := (hT t ti ht).struct hfs
  have hget : (fields.toList.map (fun f => (f.offset, f.type, (P.info? f.type).map (·.size))))[f]? = some (fd.1, fd.2.1, some fd.2.2) := by rw [hf]; simp [hfd]
  simp only [List.getElem?_map] at hget
  cases hfl : fields.toList[f]? with
  | none => simp [hfl] at hget
  | some fl =>
    simp only [hfl, Option.map_some, Option.some.injEq, Prod.mk.injEq] at hget
    obtain ⟨ho, hty, hsz⟩ := hget
    have hfl' : fields[f]? = some fl := by simpa using hfl
    obtain ⟨v, V, hr, hrv, hkv⟩ := run_part (w := w) T hT htf hVs fd.1 k4
    refine SemK.same s ?_ hrv hkv
    simp only [Instr.field, Sem.run_bind, hu, Result.andThen_ok, hfl', hV, asAgg, Sem.run_pure, ho, hty, hr]

theorem slK_ex {v : AV} {f : Nat → Nat → Nat → Prop} {n z : Prop} (h : slK v f n z) : (∃ i o l, v = .slice i o l ∧ f i o l) ∨ (v = .nilslice ∧ n) ∨ (v = .noslice ∧ z) := by
  cases v <;> first | exact .inl ⟨_, _, _, rfl, h⟩ | exact .inr (.inl ⟨rfl, h⟩) | exact .inr (.inr ⟨rfl, h⟩) | exact h.elim

theorem asIntOf_int (k : IntKind) (n : Int) (w : World) : (asIntOf (.int k n)).run P w = .ok (k, n) w := rfl

theorem astep_indexAddr (hT : TOk P T) (s : St P C ρ (lh L) fr a w) (t : TypeId) (x ix : Operand) (hk : astep T (.indexAddr t x ix) fr L K) : SemK P C fr a K (Instr.indexAt t (a.eval x) (a.eval ix)) w := by
  simp only [astep] at hk
  obtain ⟨ti, ht, k1⟩ := optK_ex hk
  obtain ⟨k, n, hn, k2⟩ := intK_ex k1
  have hrx := ev_rel s.fr x
  have hri := ev_rel s.fr ix
  rw [hn] at hri
  have hI := hri.int_inv
  split at k2
  · rename_i e he
    obtain ⟨te, hte, k3⟩ := optK_ex k2
    rcases slK_ex k3 with ⟨i, o, l, hx, ⟨h0, h1⟩, k4⟩ | ⟨_, hf⟩ | ⟨_, hf⟩
    · rw [hx] at hrx
      have key : ∃ cap, a.eval x = .slice (some ⟨(ρ i).blk, (ρ i).base + o, none⟩) l cap ∧ born (lh L) i := by
        generalize a.eval x = X at hrx
        cases hrx with
        | slice _ _ _ cap hb hl hc => exact ⟨cap, rfl, hb⟩
        | slice0 _ _ _ => simp at h1; omega
      obtain ⟨cap, hV, hb⟩ := key
      refine SemK.same s ?_ (VRel.ptr (B := born (lh L)) (ρ := ρ) i (o + n.toNat * te.size) hb) k4
      simp only [Instr.indexAt, Sem.run_bind, hI, asIntOf_int, Result.andThen_ok, (hT t ti ht).slice he, hV, Sem.run_pure, (hT e te hte).run_sizeOf]
      simp [h0, h1, addr_add, Nat.add_assoc, (hT t ti ht).slice he, (hT e te hte).run_sizeOf]
    · exact hf.elim
    · exact hf.elim
  · rename_i m e he
    obtain ⟨te, hte, k3⟩ := optK_ex k2
    obtain ⟨i, o, hx, ⟨h0, h1⟩, k4⟩ := ptrK_ex k3
    rw [hx] at hrx
    obtain ⟨hb, hV⟩ := hrx.ptr_inv
    refine SemK.same s ?_ (VRel.ptr (B := born (lh L)) (ρ := ρ) i (o + n.toNat * te.size) hb) k4
    simp only [Instr.indexAt, Sem.run_bind, hI, asIntOf_int, Result.andThen_ok, (hT t ti ht).arr he, hV, sure_ptr, Sem.run_pure, (hT e te hte).run_sizeOf]
    simp [h0, h1, addr_add, Nat.add_assoc, (hT t ti ht).arr he, (hT e te hte).run_sizeOf]
  · exact k2.elim

theorem astep_index (hT : TOk P T) (s : St P C ρ (lh L) fr a w) (t : TypeId) (x ix : Operand) (hk : astep T (.index t x ix) fr L K) : SemK P C fr a K (Instr.index t (a.eval x) (a.eval ix)) w := by
  simp only [astep] at hk
  obtain ⟨ti, ht, k1⟩ := optK_ex hk
  obtain ⟨k, n, hn, k2⟩ := intK_ex k1
  have hrx := ev_rel s.fr x
  have hri := ev_rel s.fr ix
  rw [hn] at hri
  have hI := hri.int_inv
  split at k2
  · rename_i m e he
    obtain ⟨te, hte, k3⟩ := optK_ex k2
    obtain ⟨cs, hx, ⟨h0, h1⟩, k4⟩ := aggK_ex k3
    rw [hx] at hrx
    obtain ⟨Vs, hV, hVs⟩ := hrx.agg_inv
    obtain ⟨v, V, hr, hrv, hkv⟩ := run_part (w := w) T hT hte hVs _ k4
    refine SemK.same s ?_ hrv hkv
    simp only [Instr.index, Sem.run_bind, hI, asIntOf_int, Result.andThen_ok, (hT t ti ht).arr he, hV]
    rw [if_pos ⟨h0, h1⟩]
    simp [(hT e te hte).run_sizeOf, hr]
  · exact k2.elim

theorem astep_extract (s : St P C ρ (lh L) fr a w) (x : Operand) (n : Nat) (hk : astep T (.extract x n) fr L K) : SemK P C fr a K (Instr.extract (a.eval x) n) w := by
  simp only [astep] at hk
  obtain ⟨vs, hx, k1⟩ := tupK_ex hk
  obtain ⟨v, hv, k2⟩ := optK_ex k1
  have hrx := ev_rel s.fr x
  rw [hx] at hrx
  obtain ⟨Vs, hV, hVs⟩ := hrx.tup_inv
  obtain ⟨V, hg, hr⟩ := hVs.get n v hv
  exact SemK.same s (by simp [Instr.extract, hV, hg]) hr k2

theorem evs_rel (hr : VsRel (born h) ρ fr a.tmps.toList) (xs : List Operand) : VsRel (born h) ρ (xs.map (ev fr)) (xs.map a.eval) := by
  induction xs with
  | nil => exact .nil
  | cons x xs ih => exact .cons _ _ _ _ (ev_rel hr x) ih
end
end Go.Proofs.Ytbfefpkhalegmaa

set_option linter.unusedVariables false
set_option linter.unusedSimpArgs false
namespace Go.Proofs.Ytbfefpkhalegmaa
open Go

section
variable {P : Program} {T : TyTab} {C : Ctx} {ρ ρ' : Nat → Pl} {h h' : Heap} {fr : List AV} {a : Act} {w w' : World} {L : List AObj} {K : AV → List AObj → Prop}

theorem wrap_i64 {n : Int} (h0 : -9223372036854775808 ≤ n) (h1 : n ≤ 9223372036854775807) : IntKind.wrap .i64 n = n := by
  simp only [IntKind.wrap, IntKind.bits, IntKind.signed]
  by_cases h : n % 2 ^ 64 ≥ 2 ^ (64 - 1)
  · simp only [h, decide_true, Bool.and_self, if_true]; omega
  · simp only [h, decide_false, Bool.and_false, Bool.false_eq_true, if_false]; omega

theorem bndK_ex {x : Option Operand} {d : Int} {f : Int → Prop} (s : VsRel (born h) ρ fr a.tmps.toList) (hk : bndK fr x d f) :
    ∃ n, f n ∧ ((x.map a.eval = none ∧ n = d) ∨ ∃ k, x.map a.eval = some (.int k n)) := by
  cases x with
  | none => exact ⟨d, hk, .inl ⟨rfl, rfl⟩⟩
  | some x =>
    rw [bndK_some] at hk
    obtain ⟨k, n, hx, hf⟩ := intK_ex hk
    have hr := ev_rel s x
    rw [hx] at hr
    exact ⟨n, hf, .inr ⟨k, by simp [hr.int_inv]⟩⟩

theorem run_sliceBounds (len cap : Nat) (lo hi : Option Value) (l r : Int) (hlo : (lo = none ∧ l = 0) ∨ ∃ k, lo = some (.int k l)) (hhi : (hi = none ∧ r = len) ∨ ∃ k, hi = some (.int k r))
    (h0 : 0 ≤ l) (h1 : l ≤ r) (h2 : r ≤ len) (hc : len ≤ cap) (w : World) : (Instr.sliceBounds true len cap lo hi none).run P w = .ok (l.toNat, r.toNat, cap) w := by
  rcases hlo with ⟨rfl, rfl⟩ | ⟨k, rfl⟩ <;> rcases hhi with ⟨rfl, rfl⟩ | ⟨k', rfl⟩
  · simp [Instr.sliceBounds]
  · simp [Instr.sliceBounds, Instr.sliceBound, asIntOf, show 0 ≤ r by omega, show r ≤ (cap : Int) by omega]
  · simp [Instr.sliceBounds, Instr.sliceBound, asIntOf, h0, h2, show l ≤ (len : Int) by omega]
  · simp [Instr.sliceBounds, Instr.sliceBound, asIntOf, h0, h1, show 0 ≤ r by omega, show r ≤ (cap : Int) by omega, show l ≤ max r 0 by omega]

theorem astep_slice (hT : TOk P T) (s : St P C ρ (lh L) fr a w) (t : TypeId) (x : Operand) (lo hi : Option Operand) (hk : astep T (.slice t x lo hi none) fr L K) :
    SemK P C fr a K (Instr.sliceAt t (a.eval x) (lo.map a.eval) (hi.map a.eval) none) w := by
  simp only [astep] at hk
  obtain ⟨ti, ht, k1⟩ := optK_ex hk
  obtain ⟨e, he, k2⟩ := slT_ex k1
  obtain ⟨te, hte, k3⟩ := optK_ex k2
  have hrx := ev_rel s.fr x
  have hu := (hT t ti ht).slice he
  have hsz := (hT e te hte).run_sizeOf
  rcases slK_ex k3 with ⟨i, o, len, hx, k4⟩ | ⟨hx, k4⟩ | ⟨hx, k4⟩
  all_goals
    obtain ⟨l, k5, hlo⟩ := bndK_ex s.fr k4
    obtain ⟨r, ⟨hcond, k6⟩, hhi⟩ := bndK_ex s.fr k5
    rw [hx] at hrx
  · obtain ⟨hel, h0, h1, h2⟩ := hcond
    generalize hX : a.eval x = X at hrx
    cases hrx with
    | slice _ _ _ cap hb hl hc =>
      have hrun : (Instr.sliceAt t (.slice (some ⟨(ρ i).blk, (ρ i).base + o, none⟩) len cap) (lo.map a.eval) (hi.map a.eval) none).run P w =
          .ok (.slice (if cap = l.toNat then some ⟨(ρ i).blk, (ρ i).base + o, none⟩ else some ⟨(ρ i).blk, (ρ i).base + o + l.toNat * te.size, none⟩) (r.toNat - l.toNat) (cap - l.toNat)) w := by
        simp only [Instr.sliceAt, Sem.run_bind, hu, Result.andThen_ok, Instr.slice, run_sliceBounds len cap _ _ l r hlo hhi h0 h1 h2 hl, hsz, Sem.run_pure]
        simp [addr_add]
      by_cases hcl : cap = l.toNat
      · refine SemK.same s hrun ?_ k6
        rw [if_pos hcl]
        have e1 : r.toNat - l.toNat = 0 := by omega
        have e2 : cap - l.toNat = 0 := by omega
        rw [e1, e2]
        exact .slice0 _ _ _ hb
      · refine SemK.same s hrun ?_ k6
        rw [if_neg hcl]
        have := VRel.slice (B := born (lh L)) (ρ := ρ) i (o + l.toNat * te.size) (r.toNat - l.toNat) (cap - l.toNat) hb (by omega) (fun ho => by
          have h3 := hc ho
          have h4 : (ρ i).esz = te.size := by
            cases hi : lh L i with
            | own cs e' =>
              rw [hi, elemIs_own] at hel
              subst hel
              obtain ⟨_, _, ⟨ti', hi1, hi2⟩, _⟩ := s.sim.own i cs e' hi
              obtain ⟨ti2, hi3, hi4, _⟩ := (hT e' te hte).run_info
              rw [hi1] at hi3
              injection hi3 with hi3
              subst hi3
              omega
            | ro cs e' =>
              rw [hi, elemIs_ro] at hel
              subst hel
              obtain ⟨ti', hi1, hi2⟩ := (s.sim.ro i cs e' hi).1 ho
              obtain ⟨ti2, hi3, hi4, _⟩ := (hT e' te hte).run_info
              rw [hi1] at hi3
              injection hi3 with hi3
              subst hi3
              omega
            | _ => simp [hi, elemIs] at hel
          rw [h4] at h3 ⊢
          have h5 : l.toNat ≤ cap := by omega
          have h6 : l.toNat * te.size + (cap - l.toNat) * te.size = cap * te.size := by rw [← Nat.add_mul]; congr 1; omega
          omega)
        rw [Nat.add_assoc]; exact this
    | slice0 _ _ ad hb =>
      have e0 : l = 0 := by simp at h2; omega
      have e1 : r = 0 := by simp at h2; omega
      subst e0; subst e1
      have hrun : (Instr.sliceAt t (.slice ad 0 0) (lo.map a.eval) (hi.map a.eval) none).run P w = .ok (.slice ad 0 0) w := by
        simp only [Instr.sliceAt, Sem.run_bind, hu, Result.andThen_ok, Instr.slice, run_sliceBounds 0 0 _ _ 0 0 hlo hhi (by omega) (by omega) (by simp) (by omega), hsz, Sem.run_pure]
        simp
      exact SemK.same s hrun (.slice0 _ _ _ hb) k6
  · obtain ⟨rfl, rfl⟩ := hcond
    generalize hX : a.eval x = X at hrx
    cases hrx
    have hrun : (Instr.sliceAt t (.slice none 0 0) (lo.map a.eval) (hi.map a.eval) none).run P w = .ok (.slice none 0 0) w := by
      simp only [Instr.sliceAt, Sem.run_bind, hu, Result.andThen_ok, Instr.slice, run_sliceBounds 0 0 _ _ 0 0 hlo hhi (by omega) (by omega) (by simp) (by omega), hsz, Sem.run_pure]
      simp
    exact SemK.same s hrun .nilslice k6
  · obtain ⟨rfl, rfl⟩ := hcond
    generalize hX : a.eval x = X at hrx
    cases hrx with
    | noslice ad =>
    have hrun : (Instr.sliceAt t (.slice (some ad) 0 0) (lo.map a.eval) (hi.map a.eval) none).run P w = .ok (.slice (some ad) 0 0) w := by
      simp only [Instr.sliceAt, Sem.run_bind, hu, Result.andThen_ok, Instr.slice, run_sliceBounds 0 0 _ _ 0 0 hlo hhi (by omega) (by omega) (by simp) (by omega), hsz, Sem.run_pure]
      simp
    exact SemK.same s hrun (.noslice _) k6

theorem astep_box (hT : TOk P T) (s : St P C ρ (lh L) fr a w) (t : TypeId) (x : Operand) (hk : astep T (.box t x) fr L K) : SemK P C fr a K (Instr.box t (a.eval x)) w := by
  simp only [astep] at hk
  obtain ⟨ti, ht, hsol, k1⟩ := optK_ex hk
  obtain ⟨i, hi, _, _⟩ := (hT t ti ht).run_info
  exact SemK.new s (a.eval x).cells _ t i hi (cellsOf_rel (ev_rel s.fr x) hsol) (by simp [Instr.box, newVar, newRow]) k1

theorem astep_alloc (hT : TOk P T) (s : St P C ρ (lh L) fr a w) (t : TypeId) (hk : astep T (.alloc t) fr L K) : SemK P C fr a K (Instr.alloc t true (.tuple #[])) w := by
  simp only [astep] at hk
  obtain ⟨ti, ht, k1⟩ := optK_ex hk
  obtain ⟨i, hi, _, _⟩ := (hT t ti ht).run_info
  obtain ⟨z, hz, hzr⟩ := (hT t ti ht).run_zero
  exact SemK.new s z.cells _ t i hi (by rw [← hzr]; exact ofVals_rel _ _ _) (by simp [Instr.alloc, hz, newVar, newRow]) k1

theorem astep_makeSlice (hT : TOk P T) (s : St P C ρ (lh L) fr a w) (t : TypeId) (x y : Operand) (hk : astep T (.makeSlice t x y) fr L K) : SemK P C fr a K (Instr.makeSlice t (a.eval x) (a.eval y)) w := by
  simp only [astep] at hk
  obtain ⟨ti, ht, k1⟩ := optK_ex hk
  obtain ⟨e, he, k2⟩ := slT_ex k1
  obtain ⟨te, hte, k3⟩ := optK_ex k2
  obtain ⟨kx, n, hn, k4⟩ := intK_ex k3
  obtain ⟨ky, m, hm, ⟨h0, rfl, hb, hmax⟩, k5⟩ := intK_ex k4
  have hrx := ev_rel s.fr x
  have hry := ev_rel s.fr y
  rw [hn] at hrx
  rw [hm] at hry
  have ke := hT e te hte
  obtain ⟨i, hi, hsz, hri, hby⟩ := ke.run_info
  obtain ⟨z, hz, hzr⟩ := ke.run_zero
  have hzl : z.cells.size = te.size := by
    have h1 := ke.zlen
    have h2 := (ofVals_rel (born (lh L)) ρ z.cells.toList).length
    rw [hzr] at h2; simp at h2; omega
  have hwr : IntKind.i64.wrap n = n := by
    exact wrap_i64 (by omega) hmax
  have hcells : VsRel (born (lh L)) ρ (List.replicate n.toNat te.zero).flatten ((Array.range (n.toNat * te.size)).map ((if n.toNat * te.size = 0 then #[] else z.cells)[· % (if n.toNat * te.size = 0 then #[] else z.cells).size]!)).toList := by
    by_cases hz0 : n.toNat * te.size = 0
    · have e1 : (List.replicate n.toNat te.zero).flatten = [] := by
        apply List.eq_nil_of_length_eq_zero
        simp [ke.zlen, hz0]
      rw [e1, hz0]
      simp
      exact .nil
    · rw [if_neg hz0, ← hzl, zeros_get _ _ (by
        rcases Nat.eq_zero_or_pos z.cells.size with h | h
        · rw [← hzl, h] at hz0; simp at hz0
        · exact h), ← hzr]
      exact (ofVals_rel _ _ _).flatten _
  refine SemK.newSlice s _ _ e i hi hcells n.toNat (by simp [hsz]) ?_ k5
  simp only [Instr.makeSlice, Sem.run_bind, (hT t ti ht).slice he, Result.andThen_ok, hrx.int_inv, hry.int_inv, asInt, asIntOf_int, Sem.run_pure, hri, hby, hwr]
  have hnb : ¬ ((decide (n < 0) || decide ((te.bytes : Int) * n > 2 ^ 48)) = true) := by
    have : (te.bytes : Int) * n = n * te.bytes := Int.mul_comm _ _
    simp; omega
  rw [if_neg (by
    simp only [Bool.or_eq_true, decide_eq_true_eq, not_or]
    simp only [Bool.or_eq_true, decide_eq_true_eq, not_or] at hnb
    refine ⟨⟨?_, by omega⟩, by omega⟩
    exact hnb)]
  simp only [Sem.run_bind, run_askRoom, Result.andThen_ok, ke.run_sizeOf]
  by_cases hz0 : n.toNat * te.size = 0
  · simp [hz0, newRow]
  · simp [hz0, newRow, hz]
end
end Go.Proofs.Ytbfefpkhalegmaa

set_option linter.unusedVariables false
set_option linter.unusedSimpArgs false
namespace Go.Proofs.Ytbfefpkhalegmaa
open Go

section
variable {P : Program} {T : TyTab} {C : Ctx} {ρ ρ' : Nat → Pl} {h h' : Heap} {fr : List AV} {a : Act} {w w' : World} {L : List AObj} {K : AV → List AObj → Prop}

theorem VRel.ptr_or {B : Nat → Prop} {v : AV} {V : Value} (h : VRel B ρ v V) : True := trivial

theorem eqT_ex {op : BinOp} {r : Bool} {K : AV → Prop} (h : eqT op r K) : (op = .eql ∧ K (.bool r)) ∨ (op = .neq ∧ K (.bool (!r))) := by
  cases op <;> first | exact .inl ⟨rfl, h⟩ | exact .inr ⟨rfl, h⟩ | exact h.elim

theorem run_eqGuard_plain (op : BinOp) (t : TypeId) (x y : Operand) (A B : Value) (h1 : A ≠ .nilIface) (h2 : ∀ cs, A ≠ .agg cs) (w : World) : (eqGuard op t x y A B).run P w = .ok () w := by
  cases A <;> first | exact absurd rfl h1 | exact absurd rfl (h2 _) | (unfold eqGuard; cases op <;> rfl)

theorem run_equalIn_bool {t : TypeId} (hu : ∀ w, (underlying t).run P w = .ok .bool w) (d : Nat) (b1 b2 : Bool) (w : World) : (Op.equalIn (d + 1) t (.bool b1) (.bool b2)).run P w = .ok (b1 == b2) w := by
  simp only [Op.equalIn, Sem.run_bind, hu, Result.andThen_ok, Sem.run_pure]
theorem run_equalIn_ptr {t e : TypeId} (hu : ∀ w, (underlying t).run P w = .ok (.pointer e) w) (d : Nat) (q : Addr) (w : World) : (Op.equalIn (d + 1) t (.pointer (some q)) (.pointer none)).run P w = .ok false w := by
  simp only [Op.equalIn, Sem.run_bind, hu, Result.andThen_ok, Sem.run_pure]
theorem run_equalIn_nil {t e : TypeId} (hu : ∀ w, (underlying t).run P w = .ok (.pointer e) w) (d : Nat) (w : World) : (Op.equalIn (d + 1) t (.pointer none) (.pointer none)).run P w = .ok true w := by
  simp only [Op.equalIn, Sem.run_bind, hu, Result.andThen_ok, Sem.run_pure]; rfl

theorem abin_op {op : BinOp} {x y : AV} {K : AV → Prop} (h : abin op x y K) : (∃ k n, x = .int k n) ∨ (∃ b, x = .str b) := by
  cases x <;> first | exact .inl ⟨_, _, rfl⟩ | exact .inr ⟨_, rfl⟩ | (simp [abin] at h)

theorem astep_binOp (hT : TOk P T) (s : St P C ρ (lh L) fr a w) (op : BinOp) (t t' : TypeId) (x y : Operand) (hk : astep T (.binOp op t x y t') fr L K) :
    SemK P C fr a K (do eqGuard op t x y (a.eval x) (a.eval y); binOp op t (a.eval x) (a.eval y)) w := by
  simp only [astep] at hk
  have hx := ev_rel s.fr x
  have hy := ev_rel s.fr y
  generalize ev fr x = vx at hk hx
  generalize ev fr y = vy at hk hy
  have fin : ∀ {X Y V : Value} {v : AV}, X = a.eval x → Y = a.eval y → (X ≠ .nilIface ∧ ∀ cs, X ≠ .agg cs) → (binOp op t X Y).run P w = .ok V w → VRel (born (lh L)) ρ v V → K v L →
      SemK P C fr a K (do eqGuard op t x y (a.eval x) (a.eval y); binOp op t (a.eval x) (a.eval y)) w := by
    intro X Y V v eX eY hne hrun hr hk
    refine SemK.same s ?_ hr hk
    rw [← eX, ← eY]
    simp only [Sem.run_bind, run_eqGuard_plain _ _ _ _ _ _ hne.1 hne.2, Result.andThen_ok, hrun]
  unfold abin2 at hk
  split at hk
  · rename_i b1 b2
    obtain ⟨ti, ht, k1⟩ := optK_ex hk
    split at k1
    case h_2 => exact k1.elim
    case h_1 hti =>
    obtain ⟨d, hu, hd⟩ := (hT t ti ht).run_underlying
    rw [hti] at hd
    cases d <;> first | exact hd.elim | skip
    have heq : ∀ w, (Op.equal t (.bool b1) (.bool b2)).run P w = .ok (b1 == b2) w := by
      intro w; exact run_equalIn_bool hu 9999 b1 b2 w
    rcases eqT_ex k1 with ⟨rfl, k2⟩ | ⟨rfl, k2⟩
    · exact fin hx.bool_inv.symm hy.bool_inv.symm (by simp) (by simp [binOp, heq]) (.bool _) k2
    · exact fin hx.bool_inv.symm hy.bool_inv.symm (by simp) (by simp [binOp, heq]) (.bool _) k2
  · rename_i i o
    obtain ⟨ti, ht, k1⟩ := optK_ex hk
    split at k1
    case h_2 => exact k1.elim
    case h_1 e hti =>
    obtain ⟨d, hu, hd⟩ := (hT t ti ht).run_underlying
    rw [hti] at hd
    cases d <;> first | exact hd.elim | skip
    have hy' : a.eval y = .pointer none := by generalize a.eval y = Y at hy; cases hy; rfl
    have heq : ∀ w q, (Op.equal t (.pointer (some q)) (.pointer none)).run P w = .ok false w := by
      intro w q; exact run_equalIn_ptr hu 9999 q w
    rcases eqT_ex k1 with ⟨rfl, k2⟩ | ⟨rfl, k2⟩
    · exact fin hx.ptr_inv.2.symm hy'.symm (by simp) (by simp [binOp, heq]) (.bool _) k2
    · exact fin hx.ptr_inv.2.symm hy'.symm (by simp) (by simp [binOp, heq]) (.bool _) k2
  · obtain ⟨ti, ht, k1⟩ := optK_ex hk
    split at k1
    case h_2 => exact k1.elim
    case h_1 e hti =>
    obtain ⟨d, hu, hd⟩ := (hT t ti ht).run_underlying
    rw [hti] at hd
    cases d <;> first | exact hd.elim | skip
    have hy' : a.eval y = .pointer none := by generalize a.eval y = Y at hy; cases hy; rfl
    have hx' : a.eval x = .pointer none := by generalize a.eval x = X at hx; cases hx; rfl
    have heq : ∀ w, (Op.equal t (.pointer none) (.pointer none)).run P w = .ok true w := by
      intro w; exact run_equalIn_nil hu 9999 w
    rcases eqT_ex k1 with ⟨rfl, k2⟩ | ⟨rfl, k2⟩
    · exact fin hx'.symm hy'.symm (by simp) (by simp [binOp, heq]) (.bool _) k2
    · exact fin hx'.symm hy'.symm (by simp) (by simp [binOp, heq]) (.bool _) k2
  · obtain ⟨v, V, hr, hrv, hkv⟩ := abin_sound (P := P) (w := w) (t := t) hx hy hk
    refine fin rfl rfl ?_ hr hrv hkv
    rcases abin_op hk with ⟨k, n, rfl⟩ | ⟨b, rfl⟩
    · rw [hx.int_inv]; simp
    · generalize a.eval x = X at hx; cases hx; simp

theorem astep_unOp (s : St P C ρ (lh L) fr a w) (op : UnOp) (t : TypeId) (x : Operand) (hk : astep T (.unOp op t x) fr L K) : SemK P C fr a K (Op.unary op (a.eval x)) w := by
  simp only [astep] at hk
  have hx := ev_rel s.fr x
  generalize ev fr x = vx at hk hx
  cases op <;> cases vx <;> simp only [aun] at hk
  case neg.int k n => rw [hx.int_inv]; exact SemK.same s (by simp [Op.unary, Op.intArith]) (.int _ _) hk
  case not.bool b => rw [hx.bool_inv]; exact SemK.same s (by simp [Op.unary]) (.bool _) hk

theorem astep_convert (hT : TOk P T) (s : St P C ρ (lh L) fr a w) (st t : TypeId) (x : Operand) (hk : astep T (.convert st t x) fr L K) : SemK P C fr a K (convert st t (a.eval x)) w := by
  simp only [astep] at hk
  obtain ⟨si, hs, k1⟩ := optK_ex hk
  obtain ⟨ti, ht, k2⟩ := optK_ex k1
  split at k2
  case h_2 => exact k2.elim
  case h_1 k' k hsi hti =>
  obtain ⟨kk, n, hx, k3⟩ := intK_ex k2
  have hr := ev_rel s.fr x
  rw [hx] at hr
  obtain ⟨d, hu, hd⟩ := (hT st si hs).run_underlying
  obtain ⟨d', hu', hd'⟩ := (hT t ti ht).run_underlying
  rw [hsi] at hd
  rw [hti] at hd'
  cases d <;> first | exact hd.elim | skip
  cases d' <;> first | exact hd'.elim | skip
  simp only [DOk] at hd hd'
  subst hd'
  refine SemK.same s ?_ (.int _ _) k3
  simp [convert, hu, hu', hr.int_inv, Conv.intToInt]

theorem astep_makeFunc (s : St P C ρ (lh L) fr a w) (f : Fn) (first caps : Array Operand) (hk : astep T (.makeFunc f first caps) fr L K) :
    SemK P C fr a K (Instr.makeFunc f (first.map a.eval) (caps.map a.eval)) w := by
  simp only [astep] at hk
  split at hk
  case isFalse => exact hk.elim
  case isTrue h0 =>
  have e : first = #[] := by simpa using h0
  subst e
  have := VRel.fn f (caps.toList.map (ev fr)) _ (evs_rel s.fr caps.toList)
  refine SemK.same s ?_ this hk
  simp [Instr.makeFunc]
  apply Array.ext'; simp

theorem mm_sound (isMin : Bool) (s : St P C ρ (lh L) fr a w) : ∀ (xs : List Operand) (k : IntKind) (n : Int) (K : AV → Prop), astep.mmGo fr isMin k n xs K →
    ∃ v V, ((xs.map a.eval).foldlM (if isMin then Builtin.min2 else Builtin.max2) (.int k n)).run P w = .ok V w ∧ VRel (born (lh L)) ρ v V ∧ K v := by
  intro xs
  induction xs with
  | nil => intro k n K hk; exact ⟨_, _, by simp, .int k n, hk⟩
  | cons x xs ih =>
    intro k n K hk
    simp only [astep.mmGo] at hk
    obtain ⟨k', m, hx, k1⟩ := intK_ex hk
    have hr := ev_rel s.fr x
    rw [hx] at hr
    obtain ⟨v, V, h1, h2, h3⟩ := ih _ _ _ k1
    refine ⟨v, V, ?_, h2, h3⟩
    rw [List.map_cons, List.foldlM_cons]
    cases isMin
    · simp only [Bool.false_eq_true, if_false] at h1 ⊢
      simp [hr.int_inv, Builtin.max2, h1]
    · simp only [if_true] at h1 ⊢
      simp [hr.int_inv, Builtin.min2, h1]
end
end Go.Proofs.Ytbfefpkhalegmaa

set_option linter.unusedVariables false
set_option linter.unusedSimpArgs false
namespace Go.Proofs.Ytbfefpkhalegmaa
open Go

section
variable {P : Program} {T : TyTab} {C : Ctx} {ρ ρ' : Nat → Pl} {h h' : Heap} {fr : List AV} {a : Act} {w w' : World} {L : List AObj} {K : AV → List AObj → Prop}

theorem run_append_room {t t' e e' : TypeId} {sz m : Nat} {base : Option Addr} {sLen sCap : Nat} {Y : Value} {new : Array Value} {ty : TypeId}
    (hu : ∀ w, (underlying t).run P w = .ok (.slice e) w) (hu' : ∀ w, (underlying t').run P w = .ok (.slice e') w) (hsz : ∀ w, (sizeOf e).run P w = .ok sz w)
    (hlen : ∀ w, (Builtin.lenOf Y).run P w = .ok m w) (hnew : (Builtin.firstCells sz m Y).run P w = .ok new w) (hroom : sLen + m ≤ sCap) :
    (Builtin.append_ #[t, t'] ty #[.slice base sLen sCap, Y]).run P w =
      match base with
      | none => .ok (.slice none (sLen + m) sCap) w
      | some ad => ((Go.storeCells (ad.add (sLen * sz)) new.toList).run P w).andThen fun _ w' => .ok (.slice (some ad) (sLen + m) sCap) w' := by
  unfold Builtin.append_
  simp only [List.getElem?_toArray, List.getElem?_cons_zero, List.getElem?_cons_succ, Sem.run_bind, hu, Result.andThen_ok, hsz, hu', Sem.run_pure, hlen]
  simp only [Bool.false_eq_true, if_false, Sem.run_bind, hlen, Result.andThen_ok, hroom, if_true, Bool.not_false, hnew]
  cases base with
  | none => simp
  | some ad => simp

theorem run_append_grow {t t' e e' : TypeId} {sz by_ m : Nat} {base : Option Addr} {sLen sCap : Nat} {Y : Value} {old new : Array Value} {ty : TypeId} {ti : TypeInfo} {z : Value}
    (hu : ∀ w, (underlying t).run P w = .ok (.slice e) w) (hu' : ∀ w, (underlying t').run P w = .ok (.slice e') w) (hsz : ∀ w, (sizeOf e).run P w = .ok sz w)
    (hti : ∀ w, (typeInfo e).run P w = .ok ti w) (hby : ti.bytes = by_) (hz : ∀ w, (zeroValue e).run P w = .ok z w)
    (hlen : ∀ w, (Builtin.lenOf Y).run P w = .ok m w) (hold : ∀ n, (Builtin.firstCells sz sLen (.slice base sLen sCap)).run P { w with drawn := n } = .ok old { w with drawn := n })
    (hnew : ∀ n, (Builtin.firstCells sz m Y).run P { w with drawn := n } = .ok new { w with drawn := n }) (hroom : ¬ sLen + m ≤ sCap)
    (hb0 : 0 < by_) (hb : (sLen + m) * by_ ≤ 140737488355328) :
    ∃ cap rest, sLen + m ≤ cap ∧ rest.size = (cap - (sLen + m)) * z.cells.size ∧
    (Builtin.append_ #[t, t'] ty #[.slice base sLen sCap, Y]).run P w =
      .ok (.slice (some ⟨w.heap.size, 0, none⟩) (sLen + m) cap) { w with drawn := w.drawn + 1, heap := w.heap.push (.cells (old ++ new ++ rest) e) } := by
  have hfit := growslice_fits (old := sCap) (need := sLen + m) (by omega) hb
  have hmax : sLen + m ≤ 140737488355328 := Nat.le_trans (Nat.le_mul_of_pos_right _ hb0) hb
  refine ⟨(Question.appendCap (sLen + m) sCap e).cut (w.tape w.drawn (Question.appendCap (sLen + m) sCap e)), Builtin.zeroCells z.cells ((Question.appendCap (sLen + m) sCap e).cut (w.tape w.drawn (Question.appendCap (sLen + m) sCap e)) - (sLen + m)), ?_, ?_, ?_⟩
  · simp [Question.cut]
  · simp [Builtin.zeroCells]
  · unfold Builtin.append_
    simp only [List.getElem?_toArray, List.getElem?_cons_zero, List.getElem?_cons_succ, Sem.run_bind, hu, Result.andThen_ok, hsz, hu', Sem.run_pure, hlen]
    subst hby
    have c1 : ¬ (((sLen + m : Nat) : Int) > IntKind.i64.max ∧ (false = true ∨ ti.bytes = 0)) := by
      intro h; rcases h.2 with h2 | h2
      · simp at h2
      · omega
    have c2 : ¬ Builtin.nextslicecap (sLen + m) sCap * ti.bytes > 2 ^ 48 := by omega
    simp only [Bool.false_eq_true, if_false, Sem.run_bind, hlen, Result.andThen_ok, hroom, Bool.not_false, hti, if_true]
    simp only [Bool.false_eq_true] at c1
    simp only [c1, c2, if_false, Sem.run_bind, run_choose, Question.forced, Bool.false_eq_true, Result.andThen_ok, hti, run_askRoom, hold, hnew, hz, newRow, run_newObj, Sem.run_pure, Sem.run_map]
end
end Go.Proofs.Ytbfefpkhalegmaa

set_option linter.unusedVariables false
set_option linter.unusedSimpArgs false
namespace Go.Proofs.Ytbfefpkhalegmaa
open Go

section
variable {P : Program} {T : TyTab} {C : Ctx} {ρ ρ' : Nat → Pl} {h h' : Heap} {fr : List AV} {a : Act} {w w' : World} {L : List AObj} {K : AV → List AObj → Prop}

/-- What is appended. -/
theorem news_ex (s : Sim P ρ (lh L) w) {y : AV} {Y : Value} {te : TI} {K : Nat → List AV → Prop} (hr : VRel (born (lh L)) ρ y Y) (hk : astep.news y te L K) :
    ∃ m new Vs, K m new ∧ (∀ w, (Builtin.lenOf Y).run P w = .ok m w) ∧ (∀ n, (Builtin.firstCells te.size m Y).run P { w with drawn := n } = .ok (List.toArray Vs) { w with drawn := n }) ∧ VsRel (born (lh L)) ρ new Vs ∧ new.length = m * te.size := by
  rcases slK_ex hk with ⟨i, o, len, rfl, k1⟩ | ⟨rfl, k1⟩ | ⟨rfl, k1⟩
  · obtain ⟨hl, hle, k2⟩ := cellsK_ex k1
    cases hr with
    | slice _ _ _ cap hb hlc hc =>
      refine ⟨len, ((lh L i).cells.drop o).take (len * te.size), ?_⟩
      have key : ∀ n, ∃ Vs : List Value, (Go.loadCells ⟨(ρ i).blk, (ρ i).base + o, none⟩ (len * te.size)).run P { w with drawn := n } = .ok Vs.toArray { w with drawn := n } ∧ VsRel (born (lh L)) ρ (((lh L i).cells.drop o).take (len * te.size)) Vs :=
        fun n => (s.drawn n).loadCells hl o (len * te.size) hle
      obtain ⟨Vs, h1, h2⟩ := key 0
      refine ⟨Vs, k2, fun w => rfl, fun n => ?_, h2, by simp; omega⟩
      simp only [Builtin.firstCells]
      have h3 : ∀ j v, Vs[j]? = some v → w.cell? (Addr.add ⟨(ρ i).blk, (ρ i).base + o, none⟩ j) = some v := by
        intro j v hv
        have hlen : Vs.length = len * te.size := by have := h2.length; simp at this; omega
        have hj : j < len * te.size := by have := (List.getElem?_eq_some_iff.1 hv).1; omega
        obtain ⟨V, hV, _⟩ := s.cell (off := o + j) hl (List.getElem?_eq_getElem (by omega))
        have e : ({ w with drawn := 0 } : World).cell? = w.cell? := rfl
        have h4 : ∃ W : List Value, W.length = len * te.size ∧ (∀ j v, W[j]? = some v → w.cell? (Addr.add ⟨(ρ i).blk, (ρ i).base + o, none⟩ j) = some v) ∧ (Go.loadCells ⟨(ρ i).blk, (ρ i).base + o, none⟩ (len * te.size)).run P { w with drawn := 0 } = .ok W.toArray { w with drawn := 0 } := by
          refine ⟨(List.range (len * te.size)).map fun j => (w.cell? (Addr.add ⟨(ρ i).blk, (ρ i).base + o, none⟩ j)).getD undef, by simp, ?_, ?_⟩
          · intro j v hv
            simp only [List.getElem?_map] at hv
            cases hx : (List.range (len * te.size))[j]? with
            | none => simp [hx] at hv
            | some q =>
              have hq := List.getElem?_eq_some_iff.1 hx
              obtain ⟨hq1, hq2⟩ := hq
              simp at hq1 hq2
              subst hq2
              simp only [hx, Option.map_some, Option.some.injEq] at hv
              obtain ⟨V, hV, _⟩ := s.cell (off := o + j) hl (List.getElem?_eq_getElem (by omega))
              rw [addr_add, Nat.add_assoc, hV] at hv ⊢
              simpa using hv
          · have := run_loadCells (P := P) (w := { w with drawn := 0 }) ⟨(ρ i).blk, (ρ i).base + o, none⟩ (len * te.size) (fun j => (w.cell? (Addr.add ⟨(ρ i).blk, (ρ i).base + o, none⟩ j)).getD undef) (by
              intro j hj
              obtain ⟨V, hV, _⟩ := s.cell (off := o + j) hl (List.getElem?_eq_getElem (by omega))
              rw [addr_add, Nat.add_assoc, hV]
              exact hV)
            exact this
        obtain ⟨W, hW1, hW2, hW3⟩ := h4
        rw [hW3] at h1
        injection h1 with h1
        have : W = Vs := by simpa using congrArg Array.toList h1
        subst this
        exact hW2 j v hv
      have hlen : Vs.length = len * te.size := by have := h2.length; simp at this; omega
      have := run_loadCells_list (P := P) (w := { w with drawn := n }) ⟨(ρ i).blk, (ρ i).base + o, none⟩ Vs h3
      rw [hlen] at this
      exact this
    | slice0 _ _ ad hb =>
      refine ⟨0, _, [], k2, fun w => rfl, fun n => ?_, ?_, by simp⟩
      · cases ad <;> simp [Builtin.firstCells, Go.loadCells, Go.loadCellsFrom]
      · simp; exact .nil
  · cases hr
    exact ⟨0, [], [], k1, fun w => rfl, fun n => rfl, .nil, by simp⟩
  · cases hr
    exact ⟨0, [], [], k1, fun w => rfl, fun n => by simp [Builtin.firstCells, Go.loadCells, Go.loadCellsFrom], .nil, by simp⟩

theorem zeroCells_size (z : Array Value) (n : Nat) : (Builtin.zeroCells z n).size = n * z.size := by simp [Builtin.zeroCells]

/-- Killing i and giving k the cells. -/
theorem St.kill (s : St P C ρ h fr a w) (i : Nat) : St P C ρ (upd h i .dead) fr a w := by
  refine s.next (s.sim.kill i) (fun l hl => ⟨born_dead hl, rfl⟩) (Kept.refl (fun _ => False) w) (fun _ h => h.elim) ?_
  intro l hl
  have k1 : l ≠ i := fun e => by subst e; simp [hasBlk, upd_same, AObj.isOwn] at hl
  exact s.mine l (hasBlk_upd k1 hl)

theorem lh_kill {i : Nat} (hi : i < L.length) (o : AObj) : lh (L.set i .dead ++ [o]) = upd (upd (lh L) i .dead) L.length o := by
  have := lh_append (L.set i .dead) o
  rw [List.length_set] at this
  rw [this, lh_set L i _ hi]

theorem lt_of_own {i : Nat} {cs : List AV} {e : TypeId} (hi : lh L i = .own cs e) : i < L.length := by
  by_cases hlt : i < L.length
  · exact hlt
  · simp [lh, List.getElem?_eq_none (Nat.le_of_not_lt hlt)] at hi

/-- A new row behind an append that has no room. -/
theorem append_new {i : Nat} (s : St P C ρ h fr a w) {k : Nat} (hk : h k = .unborn) (n : Nat) (c : Array Value) (cs : List AV) (e : TypeId) (ti : TypeInfo) (hi : P.info? e = some ti)
    (hl : cs.length ≤ c.size) (hr : CRel (born h) ρ cs (fun j => c[j]?)) (m cap : Nat) (hm : m ≤ cap) (hc : cap * ti.size = c.size) :
    ∃ ρ', St P C ρ' (upd h k (.own cs e)) fr a { w with drawn := n, heap := w.heap.push (.cells c e) } ∧ VRel (born (upd h k (.own cs e))) ρ' (.slice k 0 m) (.slice (some ⟨w.heap.size, 0, none⟩) m cap) := by
  have s1 := (s.drawn n).alloc hk c cs e ti hi hl hr
  refine ⟨_, s1, ?_⟩
  have := VRel.slice (B := born (upd h k (.own cs e))) (ρ := upd ρ k ⟨w.heap.size, 0, true, c.size, ti.size⟩) k 0 m cap (by simp [born, upd_same, AObj.born]) hm (fun _ => by rw [upd_same]; simpa using hc)
  rw [upd_same] at this
  exact this

theorem astep_append (hT : TOk P T) (s : St P C ρ (lh L) fr a w) (ty : TypeId) (args : Array Operand) (argTypes : Array TypeId) (ha : args.size = 2) (hat : argTypes.size = 2)
    (hk : astep T (.call { callee := .builtin .append, args, argTypes }) fr L K) : SemK P C fr a K (Builtin.append_ argTypes ty (args.map a.eval)) w := by
  simp only [astep] at hk
  obtain ⟨x, hx, k1⟩ := optK_ex hk
  obtain ⟨y, hy, k2⟩ := optK_ex k1
  obtain ⟨t, ht, k3⟩ := optK_ex k2
  obtain ⟨t', ht', k4⟩ := optK_ex k3
  obtain ⟨ti, hti, k5⟩ := optK_ex k4
  obtain ⟨ti', hti', k6⟩ := optK_ex k5
  obtain ⟨e', he', k7⟩ := slT_ex k6
  obtain ⟨e, he, k8⟩ := slT_ex k7
  obtain ⟨te, hte, k9⟩ := optK_ex k8
  have eargs : args.map a.eval = #[a.eval x, a.eval y] := by
    apply Array.ext'
    obtain ⟨l⟩ := args
    match l, ha with
    | [p, q], _ => simp at hx hy; simp [hx, hy]
  have etys : argTypes = #[t, t'] := by
    apply Array.ext'
    obtain ⟨l⟩ := argTypes
    match l, hat with
    | [p, q], _ => simp at ht ht'; simp [ht, ht']
  rw [eargs, etys]
  have hu := fun w => (hT t ti hti).slice he w
  have hu' := fun w => (hT t' ti' hti').slice he' w
  have ke := hT e te hte
  obtain ⟨info, hi, hsz, hri, hby⟩ := ke.run_info
  obtain ⟨z, hz, hzr⟩ := ke.run_zero
  have hzl : z.cells.size = te.size := by
    have h1 := ke.zlen
    have h2 := (ofVals_rel (born (lh L)) ρ z.cells.toList).length
    rw [hzr] at h2; simp at h2; omega
  have hrx := ev_rel s.fr x
  have hry := ev_rel s.fr y
  generalize a.eval x = X at hrx ⊢
  generalize a.eval y = Y at hry ⊢
  -- an empty old slice
  have empty : ∀ (base : Option Addr), (astep.news (ev fr y) te L fun m new => chk (0 < te.size ∧ 0 < te.bytes ∧ m * te.bytes ≤ 140737488355328 ∧ new.all AV.cell1 = true) (K (.slice L.length 0 m) (L ++ [.own new e]))) →
      SemK P C fr a K (Builtin.append_ #[t, t'] ty #[.slice base 0 0, Y]) w := by
    intro base hn
    obtain ⟨m, new, Vs, ⟨⟨hs0, hb0, hb, h1⟩, hK⟩, hlen, hcells, hrel, hnl⟩ := news_ex s.sim hry hn
    have hVl : Vs.length = m * te.size := by rw [← hrel.length]; exact hnl
    by_cases hm : m = 0
    · subst hm
      have hnil : new = [] := List.eq_nil_of_length_eq_zero (by simpa using hnl)
      have hVnil : Vs = [] := List.eq_nil_of_length_eq_zero (by simpa using hVl)
      subst hnil; subst hVnil
      have hrun := run_append_room (P := P) (w := w) (base := base) (sLen := 0) (sCap := 0) (ty := ty) hu hu' ke.run_sizeOf hlen (hcells w.drawn) (by omega)
      have hst : St P C (upd ρ L.length ⟨0, 0, true, 0, info.size⟩) (upd (lh L) L.length (.own [] e)) fr a w := by
        refine s.next (s.sim.allocNone (lh_unborn L) e info hi 0) ?_ (Kept.refl (fun _ => False) w) (fun _ h => h.elim) ?_
        · intro i hi'
          have hne : i ≠ L.length := fun e => by subst e; simp [born, lh_unborn, AObj.born] at hi'
          exact ⟨born_own hi', upd_ne _ _ hne⟩
        · intro i hi'
          have hne : i ≠ L.length := fun e => by subst e; simp [hasBlk, upd_same] at hi'
          unfold hasBlk at hi'
          rw [upd_ne _ _ hne] at hi' ⊢
          rw [upd_ne _ _ hne] at hi'
          exact s.mine i hi'
      rw [← lh_append] at hst
      refine ⟨_, w, _, _, _, ?_, hst, .slice0 L.length 0 base (by rw [lh_append]; simp [born, upd_same, AObj.born]), hK⟩
      rw [hrun]
      cases base with
      | none => rfl
      | some ad => simp [Go.storeCells]
    · have hold : ∀ n, (Builtin.firstCells te.size 0 (.slice base 0 0)).run P { w with drawn := n } = .ok #[] { w with drawn := n } := by
        intro n; cases base <;> simp [Builtin.firstCells, Go.loadCells, Go.loadCellsFrom]
      obtain ⟨cap, rest, hcap, hrest, hrun⟩ := run_append_grow (P := P) (w := w) (base := base) (sLen := 0) (sCap := 0) (ty := ty) hu hu' ke.run_sizeOf hri hby hz hlen hold hcells (by omega) hb0 (by simpa using hb)
      have hcs : cap * info.size = (#[] ++ Vs.toArray ++ rest).size := by
        simp [hrest, hVl, hzl, hsz]
        have : cap = m + (cap - m) := by omega
        rw [this, Nat.add_mul]
        simp
      have hcr : CRel (born (lh L)) ρ new (fun j => (#[] ++ Vs.toArray ++ rest)[j]?) := by
        intro j v hv
        obtain ⟨V, hV, hr⟩ := hrel.get j v hv
        have : j < Vs.length := (List.getElem?_eq_some_iff.1 hV).1
        have e1 : (#[] ++ Vs.toArray ++ rest)[j]? = Vs[j]? := by
          rw [Array.getElem?_append_left (by simpa using this)]
          simp
        exact ⟨V, e1.trans hV, hr⟩
      obtain ⟨ρ', hst, hval⟩ := append_new (i := 0) s (lh_unborn L) (w.drawn + 1) _ new e info hi (by simp; omega) hcr (0 + m) cap hcap hcs
      rw [← lh_append] at hst hval
      rw [Nat.zero_add] at hval hrun
      exact ⟨_, _, ρ', _, _, hrun, hst, hval, hK⟩
  rcases slK_ex k9 with ⟨i, o, len, hxe, k10⟩ | ⟨hxe, k10⟩ | ⟨hxe, k10⟩
  · obtain ⟨cs, e1, hown, k11⟩ := ownK_ex k10
    obtain ⟨m, new, Vs, ⟨⟨rfl, rfl, hlc, hs0, hb0, hb, h1⟩, hK⟩, hlen, hcells, hrel, hnl⟩ := news_ex s.sim hry k11
    have hVl : Vs.length = m * te.size := by rw [← hrel.length]; exact hnl
    have hlt := lt_of_own hown
    obtain ⟨ho1, ho2, ⟨ti2, hi2, ho3⟩, ho4, ho5⟩ := s.sim.own i cs e1 hown
    have heq : ti2 = info := by rw [hi] at hi2; exact (Option.some.inj hi2).symm
    subst heq
    have hne : i ≠ L.length := by omega
    have hub : upd (lh L) i .dead L.length = .unborn := by rw [upd_ne _ _ (Ne.symm hne)]; exact lh_unborn L
    rw [hxe] at hrx
    -- the two ways of lying
    have key : ∃ base cap, X = .slice base len cap ∧ len ≤ cap ∧ cap * te.size ≤ (ρ i).tot ∧ (base = some ⟨(ρ i).blk, 0, none⟩ ∧ cap * te.size = (ρ i).tot ∨ len = 0 ∧ cap = 0) ∧ born (lh L) i := by
      cases hrx with
      | slice _ _ _ cap hbn hl hc => exact ⟨_, cap, rfl, hl, by have := hc ho1; rw [← ho3, hsz] at this; omega, .inl ⟨by rw [ho2], by have := hc ho1; rw [← ho3, hsz] at this; omega⟩, hbn⟩
      | slice0 _ _ ad hbn => exact ⟨ad, 0, rfl, Nat.le_refl _, by omega, .inr ⟨rfl, rfl⟩, hbn⟩
    obtain ⟨base, cap, rfl, hlcap, hcaptot, hbase, hbn⟩ := key
    by_cases hroom : len + m ≤ cap
    · have hrun := run_append_room (P := P) (w := w) (base := base) (sLen := len) (sCap := cap) (ty := ty) hu hu' ke.run_sizeOf hlen (hcells w.drawn) hroom
      rcases hbase with ⟨rfl, hctot⟩ | ⟨rfl, rfl⟩
      · have hmul : (len + m) * te.size ≤ cap * te.size := Nat.mul_le_mul_right _ hroom
        rw [Nat.add_mul] at hmul
        obtain ⟨w', hst, s', k'⟩ := Sim.storeGrow (P := P) new Vs cs w (lh L) 0 (len * te.size) s.sim hown hrel (by simpa using h1) (by omega) (by omega)
        have s2 : St P C ρ (lh (L.set i (.own (cs ++ new) e1))) fr a w' := by
          refine s.wrote hown s' k' ?_
          by_cases h0 : 0 < (ρ i).tot
          · exact .inl h0
          · right
            have hVnil : Vs = [] := List.eq_nil_of_length_eq_zero (by omega)
            subst hVnil
            simp [Go.storeCells] at hst
            exact hst.symm
        have hown2 : lh (L.set i (.own (cs ++ new) e1)) i = .own (cs ++ new) e1 := by rw [lh_set L i _ hlt, upd_same]
        have hub2 : lh (L.set i (.own (cs ++ new) e1)) L.length = .unborn := by rw [lh_set L i _ hlt, upd_ne _ _ (Ne.symm hne)]; exact lh_unborn L
        have s3 : St P C (upd ρ L.length (ρ i)) (upd (upd (lh (L.set i (.own (cs ++ new) e1))) i .dead) L.length (.own (cs ++ new) e1)) fr a w' := by
          refine s2.next (s2.sim.rename hown2 hub2) ?_ (Kept.refl (fun _ => False) w') (fun _ h => h.elim) ?_
          · intro l hl
            have hlk : l ≠ L.length := fun e => by subst e; simp [born, hub2, AObj.born] at hl
            exact ⟨born_own (born_dead hl), upd_ne _ _ hlk⟩
          · intro l hl
            by_cases hlk : l = L.length
            · subst hlk
              rw [upd_same]
              exact s2.mine i ⟨by simp [hown2, AObj.isOwn], by simpa [upd_same] using hl.2⟩
            · rw [upd_ne _ _ hlk]
              have hli : l ≠ i := fun e => by subst e; simp [hasBlk, upd_ne _ _ hlk, upd_same, AObj.isOwn] at hl
              refine s2.mine l ?_
              unfold hasBlk at hl ⊢
              rwa [upd_ne _ _ hlk, upd_ne _ _ hlk, upd_ne _ _ hli] at hl
        have eh : upd (upd (lh (L.set i (.own (cs ++ new) e1))) i .dead) L.length (.own (cs ++ new) e1) = lh (L.set i .dead ++ [.own (cs ++ new) e1]) := by
          rw [lh_kill hlt, lh_set L i _ hlt, upd_upd]
        rw [eh] at s3
        refine ⟨.slice (some ⟨(ρ i).blk, 0, none⟩) (len + m) cap, w', _, _, _, ?_, s3, ?_, hK⟩
        · rw [hrun]
          simp only [addr_add, Nat.zero_add, hst, Result.andThen_ok]
        · have := VRel.slice (B := born (lh (L.set i .dead ++ [.own (cs ++ new) e1]))) (ρ := upd ρ L.length (ρ i)) L.length 0 (len + m) cap (by rw [lh_kill hlt]; simp [born, upd_same, AObj.born]) hroom (fun _ => by rw [upd_same, ← ho3, hsz]; omega)
          rw [upd_same, ho2] at this
          exact this
      · have hm0 : m = 0 := by omega
        subst hm0
        have hnil : new = [] := List.eq_nil_of_length_eq_zero (by simpa using hnl)
        have hVnil : Vs = [] := List.eq_nil_of_length_eq_zero (by simpa using hVl)
        subst hnil; subst hVnil
        have s3 : St P C (upd ρ L.length (ρ i)) (upd (upd (lh L) i .dead) L.length (.own cs e1)) fr a w := by
          refine s.next (s.sim.rename hown (lh_unborn L)) ?_ (Kept.refl (fun _ => False) w) (fun _ h => h.elim) ?_
          · intro l hl
            have hlk : l ≠ L.length := fun e => by subst e; simp [born, lh_unborn, AObj.born] at hl
            exact ⟨born_own (born_dead hl), upd_ne _ _ hlk⟩
          · intro l hl
            by_cases hlk : l = L.length
            · subst hlk
              rw [upd_same]
              exact s.mine i ⟨by simp [hown, AObj.isOwn], by simpa [upd_same] using hl.2⟩
            · rw [upd_ne _ _ hlk]
              have hli : l ≠ i := fun e => by subst e; simp [hasBlk, upd_ne _ _ hlk, upd_same, AObj.isOwn] at hl
              refine s.mine l ?_
              unfold hasBlk at hl ⊢
              rwa [upd_ne _ _ hlk, upd_ne _ _ hlk, upd_ne _ _ hli] at hl
        rw [← lh_kill hlt] at s3
        rw [List.append_nil] at hK
        refine ⟨.slice base 0 0, w, _, _, _, ?_, s3, .slice0 L.length 0 base (by rw [lh_kill hlt]; simp [born, upd_same, AObj.born]), hK⟩
        rw [hrun]
        cases base with
        | none => rfl
        | some ad => simp [Go.storeCells]
    · have hold : ∃ Vo : List Value, VsRel (born (lh L)) ρ cs Vo ∧ ∀ n, (Builtin.firstCells te.size len (.slice base len cap)).run P { w with drawn := n } = .ok Vo.toArray { w with drawn := n } := by
        have := news_ex (K := fun m' new' => m' = len ∧ new' = cs) (te := te) s.sim hrx (by
          simp only [astep.news, slK_slice, hown, cellsK_own]
          refine ⟨by omega, ?_⟩
          simp [hlc])
        obtain ⟨m', new', Vo, ⟨rfl, rfl⟩, _, hc', hrel', _⟩ := this
        exact ⟨Vo, hrel', hc'⟩
      obtain ⟨Vo, hVo, hold⟩ := hold
      have hVol : Vo.length = len * te.size := by rw [← hVo.length]; omega
      obtain ⟨cap', rest, hcap, hrest, hrun⟩ := run_append_grow (P := P) (w := w) (base := base) (sLen := len) (sCap := cap) (ty := ty) hu hu' ke.run_sizeOf hri hby hz hlen hold hcells hroom hb0 hb
      have hcs : cap' * ti2.size = (Vo.toArray ++ Vs.toArray ++ rest).size := by
        simp [hrest, hVl, hVol, hzl, hsz]
        have e1 : cap' = len + m + (cap' - (len + m)) := by omega
        have e2 : cap' * te.size = (len + m + (cap' - (len + m))) * te.size := by rw [← e1]
        rw [e2, Nat.add_mul, Nat.add_mul]
      have hcr : CRel (born (lh L)) ρ (cs ++ new) (fun j => (Vo.toArray ++ Vs.toArray ++ rest)[j]?) := by
        intro j v hv
        obtain ⟨V, hV, hr⟩ := (hVo.append hrel).get j v hv
        have hj : j < Vo.length + Vs.length := by have := (List.getElem?_eq_some_iff.1 hV).1; simpa using this
        refine ⟨V, ?_, hr⟩
        have e1 : (Vo.toArray ++ Vs.toArray ++ rest)[j]? = (Vo ++ Vs)[j]? := by
          rw [Array.getElem?_append_left (by simpa using hj)]
          simp
        exact e1.trans hV
      have s1 := s.kill i
      obtain ⟨ρ', hst, hval⟩ := append_new (i := i) s1 hub (w.drawn + 1) _ (cs ++ new) e1 ti2 hi (by simp; omega) (hcr.mono (fun l hl => ⟨born_dead hl, rfl⟩) (fun _ _ _ hg => hg)) (len + m) cap' hcap hcs
      rw [← lh_kill hlt] at hst hval
      exact ⟨_, _, ρ', _, _, hrun, hst, hval, hK⟩
  · rw [hxe] at hrx
    cases hrx
    exact empty none k10
  · rw [hxe] at hrx
    cases hrx
    exact empty (some _) k10
end
end Go.Proofs.Ytbfefpkhalegmaa

set_option linter.unusedVariables false
set_option linter.unusedSimpArgs false
namespace Go.Proofs.Ytbfefpkhalegmaa
open Go

def eqV : List AV → List AV → Option Bool
  | [], [] => some true
  | .int k a :: xs, .int k' b :: ys => if k = k' then (eqV xs ys).map fun r => (a == b) && r else none
  | .bool a :: xs, .bool b :: ys => (eqV xs ys).map fun r => (a == b) && r
  | _, _ => none
theorem eqV_nil : eqV [] [] = some true := nrf rfl
theorem eqV_int (k : IntKind) (a b : Int) (xs ys : List AV) : eqV (.int k a :: xs) (.int k b :: ys) = (eqV xs ys).map fun r => (a == b) && r := by simp [eqV]
theorem eqV_bool (a b : Bool) (xs ys : List AV) : eqV (.bool a :: xs) (.bool b :: ys) = (eqV xs ys).map fun r => (a == b) && r := nrf rfl
def isI (v : AV) : Bool := match v with | .int _ _ => true | _ => false
def eqB (T : TyTab) (t : TypeId) (b : Bool) : Bool := match T t with
  | some ti => (match ti.k with | .int _ => b | .bool => !b | _ => false)
  | none => false
def eqFs (T : TyTab) : Nat → List Field → List Bool → Bool
  | _, [], _ => true
  | i, f :: fs, b :: bs => f.name != "_" && f.offset == i && eqB T f.type b && eqFs T (i + 1) fs bs
  | _, _ :: _, [] => false
/-- A struct of n fields, whole numbers and bools, that may be held against another one. -/
def eqOkN (P : Program) (T : TyTab) (t : TypeId) (bs : List Bool) : Bool := match P.underlying t with
  | some (.struct fs) => !P.stoodInHeld t && !P.eqGuardType P.depth t && eqFs T 0 fs.toList bs && fs.size == bs.length
  | _ => false
def abin3 (P : Program) (T : TyTab) (op : BinOp) (t : TypeId) (x y : AV) (K : AV → Prop) : Prop :=
  match x, y with
  | .agg xs, .agg ys => chk (eqOkN P T t (xs.map isI) = true ∧ xs.length = ys.length) (optK (eqV xs ys) fun r => eqT op r K)
  | x, y => abin2 T op t x y K
theorem abin3_agg (P : Program) (T : TyTab) (op : BinOp) (t : TypeId) (xs ys : List AV) (K : AV → Prop) : abin3 P T op t (.agg xs) (.agg ys) K = chk (eqOkN P T t (xs.map isI) = true ∧ xs.length = ys.length) (optK (eqV xs ys) fun r => eqT op r K) := nrf rfl
theorem abin3_int (P : Program) (T : TyTab) (op : BinOp) (t : TypeId) (k k' : IntKind) (a b : Int) (K : AV → Prop) : abin3 P T op t (.int k a) (.int k' b) K = abin2 T op t (.int k a) (.int k' b) K := nrf rfl
theorem abin3_str (P : Program) (T : TyTab) (op : BinOp) (t : TypeId) (a b : ByteArray) (K : AV → Prop) : abin3 P T op t (.str a) (.str b) K = abin2 T op t (.str a) (.str b) K := nrf rfl
theorem abin3_bool (P : Program) (T : TyTab) (op : BinOp) (t : TypeId) (a b : Bool) (K : AV → Prop) : abin3 P T op t (.bool a) (.bool b) K = abin2 T op t (.bool a) (.bool b) K := nrf rfl
theorem abin3_pn (P : Program) (T : TyTab) (op : BinOp) (t : TypeId) (i o : Nat) (K : AV → Prop) : abin3 P T op t (.ptr i o) .nilptr K = abin2 T op t (.ptr i o) .nilptr K := nrf rfl
theorem abin3_nn (P : Program) (T : TyTab) (op : BinOp) (t : TypeId) (K : AV → Prop) : abin3 P T op t .nilptr .nilptr K = abin2 T op t .nilptr .nilptr K := nrf rfl
theorem abin3_congr (P : Program) (T : TyTab) (op : BinOp) (t : TypeId) (x x' y y' : AV) (K : AV → Prop) (h : x = x') (h' : y = y') : abin3 P T op t x y K = abin3 P T op t x' y' K := by rw [h, h']

def intsOf : List AV → Option (List Int)
  | [] => some []
  | .int .u8 n :: l => (intsOf l).map fun r => n :: r
  | _ => none
def u8K (k : TK) (p : Prop) (_ : Bx p := .mk) : Prop := match k with | .int .u8 => p | _ => False
theorem u8K_u8 (p : Prop) : u8K (.int .u8) p = p := nrf rfl
/-- A conversion: of whole numbers; of bytes to a string. -/
def acv (T : TyTab) (s t : TypeId) (x : AV) (L : List AObj) (K : AV → List AObj → Prop) : Prop :=
  optK (T s) fun si => optK (T t) fun ti => match si.k, ti.k with
    | .int _, .int k => intK x fun _ n => K (.int k (k.wrap n)) L
    | .slice e, .str => optK (T e) fun te => u8K te.k (slK x (fun i off len => cellsK (lh L i) fun cs => optK (intsOf ((cs.drop off).take len)) fun ns => chk (ns.length = len) (K (.str (strOfNums ns)) L))
        (K (.str ByteArray.empty) L) (K (.str ByteArray.empty) L))
    | _, _ => False

section
variable {P : Program} {T : TyTab} {C : Ctx} {ρ : Nat → Pl} {fr : List AV} {a : Act} {w : World} {L : List AObj} {K : AV → List AObj → Prop} {B : Nat → Prop}

theorem intsOf_rel : ∀ (l : List AV) (Vs : List Value) (ns : List Int), VsRel B ρ l Vs → intsOf l = some ns → Vs = ns.map (Value.int .u8)
  | [], _, ns, h, e => by cases h; simp [intsOf] at e; subst e; rfl
  | v :: l, _, ns, h, e => by
    cases h with
    | cons _ V _ Vs hv hs =>
      cases v with
      | int k n =>
        cases k <;> first | (simp [intsOf] at e; done) | skip
        simp only [intsOf] at e
        cases hl : intsOf l with
        | none => simp [hl] at e
        | some r =>
          simp [hl] at e
          subst e
          rw [List.map_cons, ← intsOf_rel l Vs r hs hl, hv.int_inv]
      | _ => simp [intsOf] at e

theorem acv_sound (hT : TOk P T) (s : St P C ρ (lh L) fr a w) (st t : TypeId) (x : Operand) (hk : acv T st t (ev fr x) L K) : SemK P C fr a K (convert st t (a.eval x)) w := by
  unfold acv at hk
  obtain ⟨si, hs, k1⟩ := optK_ex hk
  obtain ⟨ti, ht, k2⟩ := optK_ex k1
  split at k2
  · rename_i k' k hsi hti
    refine astep_convert hT s st t x ?_
    simp only [astep]
    rw [hs, ht, optK_some, optK_some, hsi, hti]
    exact k2
  · rename_i e hsi hti
    obtain ⟨te, he, k3⟩ := optK_ex k2
    have hu8 : te.k = .int .u8 := by
      unfold u8K at k3; split at k3
      · assumption
      · exact k3.elim
    rw [hu8, u8K_u8] at k3
    have tu : ∀ (t : TypeId) (ti : TI), T t = some ti → ∃ d, P.underlying t = some d ∧ DOk P d ti.k := fun t ti h => (hT t ti h).desc
    obtain ⟨d, hu, hd⟩ := tu st si hs
    obtain ⟨d', hu', hd'⟩ := tu t ti ht
    obtain ⟨d2, hu2, hd2⟩ := tu e te he
    rw [hsi] at hd
    rw [hti] at hd'
    rw [hu8] at hd2
    cases d <;> first | exact hd.elim | skip
    cases d' <;> first | exact hd'.elim | skip
    cases d2 <;> first | exact hd2.elim | skip
    simp only [DOk] at hd hd2
    subst hd; subst hd2
    have hr := ev_rel s.fr x
    generalize ev fr x = v at hr k3
    generalize hX : a.eval x = X at hr
    rcases slK_ex k3 with ⟨i, off, len, rfl, k4⟩ | ⟨rfl, k4⟩ | ⟨rfl, k4⟩
    · obtain ⟨hl, k5⟩ := cellsK_ex k4
      obtain ⟨ns, hns, k6⟩ := optK_ex k5
      obtain ⟨hlen, hK⟩ := k6
      cases hr with
      | slice _ _ _ cap hb hcap hc =>
        refine SemK.same s (V := .string (strOfNums ns)) ?_ (.str _) hK
        refine run_convert_bytes_arg w st _ hu hu2 _ _ len cap ns hlen (fun j hj => ?_) t hu'
        have hget : ∃ v, (lh L i).cells[off + j]? = some v ∧ (((lh L i).cells.drop off).take len)[j]? = some v := by
          have hjl : j < ns.length := by omega
          have : ∀ (l : List AV) (ns : List Int), intsOf l = some ns → l.length = ns.length := by
            intro l
            induction l with
            | nil => intro ns h; simp [intsOf] at h; subst h; rfl
            | cons v l ih =>
              intro ns h
              cases v with
              | int k n =>
                cases k <;> first | (simp [intsOf] at h; done) | skip
                simp only [intsOf] at h
                cases hl : intsOf l with
                | none => simp [hl] at h
                | some r => simp [hl] at h; subst h; simp [ih r hl]
              | _ => simp [intsOf] at h
          have hl2 := this _ _ hns
          have hlt : j < (((lh L i).cells.drop off).take len).length := by omega
          refine ⟨_, ?_, List.getElem?_eq_getElem hlt⟩
          rw [List.getElem_take, List.getElem_drop]
          have : off + j < (lh L i).cells.length := by
            simp at hlt; omega
          exact List.getElem?_eq_getElem this
        obtain ⟨v, hv1, hv2⟩ := hget
        obtain ⟨V, hV, hrel⟩ := s.sim.cell hl hv1
        have hnv : v = .int .u8 (ns.getD j 0) := by
          have : ∀ (l : List AV) (ns : List Int) (j : Nat) (v : AV), intsOf l = some ns → l[j]? = some v → v = .int .u8 (ns.getD j 0) := by
            intro l
            induction l with
            | nil => intro ns j v h h2; simp at h2
            | cons u l ih =>
              intro ns j v h h2
              cases u with
              | int k n =>
                cases k <;> first | (simp [intsOf] at h; done) | skip
                simp only [intsOf] at h
                cases hl : intsOf l with
                | none => simp [hl] at h
                | some r =>
                  simp [hl] at h
                  subst h
                  cases j with
                  | zero => simp at h2; simp [h2]
                  | succ j => simpa using ih r j v hl (by simpa using h2)
              | _ => simp [intsOf] at h
          exact this _ _ _ _ hns hv2
        subst hnv
        rw [hrel.int_inv] at hV
        rw [show (ρ i).base + off + j = (ρ i).base + (off + j) by omega]
        exact hV
      | slice0 _ _ ad hb =>
        simp [intsOf] at hns
        subst hns
        refine SemK.same s (V := .string (strOfNums [])) ?_ (.str _) hK
        cases ad with
        | none => exact run_convert_bytes_nil w st _ hu hu2 0 0 t hu'
        | some ad =>
          obtain ⟨b, o, sp⟩ := ad
          rw [run_convert_bytes_string w st t _ _ 0 0 hu hu2 hu', run_bytesToString w _ 0 0 [] (by have := run_loadCells_list (P := P) w ⟨b, o, sp⟩ [] (by simp); simpa using this)]
          rfl
    · cases hr
      exact SemK.same s (run_convert_bytes_nil w st _ hu hu2 0 0 t hu') (.str _) k4
    · cases hr with
      | noslice ad =>
        refine SemK.same s (V := .string ByteArray.empty) ?_ (.str _) k4
        rw [run_convert_bytes_string w st t _ _ 0 0 hu hu2 hu', run_bytesToString w _ 0 0 [] (by have := run_loadCells_list (P := P) w ad [] (by simp); simpa using this)]
        rfl
  · exact k2.elim

theorem eqFields_sound (hT : TOk P T) (d : Nat) (xs ys : List AV) (Xs Ys : List Value) (hx : VsRel B ρ xs Xs) (hy : VsRel B ρ ys Ys) : ∀ (fs : List Field) (i : Nat) (r : Bool), eqFs T i fs ((xs.drop i).map isI) = true → xs.length = i + fs.length → eqV (xs.drop i) (ys.drop i) = some r →
    (Op.eqFields (d + 1) Xs.toArray Ys.toArray fs).run P w = .ok r w
  | [], i, r, _, hl, he => by
    rw [List.drop_of_length_le (by simp at hl; omega)] at he
    cases hyd : ys.drop i with
    | nil => rw [hyd] at he; simp [eqV] at he; subst he; simp [Op.eqFields]
    | cons v l => rw [hyd] at he; simp [eqV] at he
  | f :: fs, i, r, hf, hl, he => by
    have hlt : i < xs.length := by simp at hl; omega
    rw [List.drop_eq_getElem_cons hlt, List.map_cons] at hf
    simp only [eqFs, Bool.and_eq_true, bne_iff_ne, ne_eq, beq_iff_eq] at hf
    obtain ⟨⟨⟨h1, h2⟩, h3⟩, h4⟩ := hf
    rw [List.drop_eq_getElem_cons hlt] at he
    cases hyd : ys.drop i with
    | nil => rw [hyd] at he; cases hxi : xs[i] <;> simp [hxi, eqV] at he
    | cons v l =>
      have hly : i < ys.length := by
        by_cases h : i < ys.length
        · exact h
        · rw [List.drop_of_length_le (by omega)] at hyd; cases hyd
      rw [List.drop_eq_getElem_cons hly] at hyd he
      obtain ⟨hv, hl'⟩ := List.cons.inj hyd
      obtain ⟨X, hX, hrx⟩ := hx.get i xs[i] (List.getElem?_eq_getElem hlt)
      obtain ⟨Y, hY, hry⟩ := hy.get i ys[i] (List.getElem?_eq_getElem hly)
      unfold eqB at h3
      cases ht : T f.type with
      | none => simp [ht] at h3
      | some ti =>
        simp only [ht] at h3
        obtain ⟨dd, hu, hd⟩ := (hT f.type ti ht).desc
        have hag : ti.k.isAgg = false := by split at h3 <;> simp_all [TK.isAgg]
        have px : (part f.type Xs.toArray f.offset).run P w = .ok X w := by
          simp only [part, Sem.run_bind, (hT f.type ti ht).run_isAgg, Result.andThen_ok, hag]
          simp [h2, hX]
        have py : (part f.type Ys.toArray f.offset).run P w = .ok Y w := by
          simp only [part, Sem.run_bind, (hT f.type ti ht).run_isAgg, Result.andThen_ok, hag]
          simp [h2, hY]
        have step : ∀ (b : Bool) (r' : Bool), (Op.equalIn (d + 1) f.type X Y).run P w = .ok b w → eqV (xs.drop (i + 1)) (ys.drop (i + 1)) = some r' → r = (b && r') →
            (Op.eqFields (d + 1) Xs.toArray Ys.toArray (f :: fs)).run P w = .ok r w := by
          intro b r' he1 he2 he3
          simp only [Op.eqFields, ne_eq, h1, not_false_eq_true, if_true, Sem.run_bind, px, py, Result.andThen_ok, he1]
          cases b with
          | true =>
            simp only [Bool.not_true, Bool.false_eq_true, if_false]
            rw [eqFields_sound hT d xs ys Xs Ys hx hy fs (i + 1) r' h4 (by simp at hl; omega) he2, he3]; rfl
          | false => simp [he3]
        cases hxi : xs[i] with
        | int k n =>
          cases hyi : ys[i] with
          | int k' m =>
            rw [hxi, hyi] at he
            simp only [eqV] at he
            split at he
            · rename_i hkk
              subst hkk
              obtain ⟨r', hr', rfl⟩ := Option.map_eq_some_iff.1 he
              rw [hxi] at hrx; rw [hyi] at hry
              have := hrx.int_inv; have := hry.int_inv; subst X; subst Y
              refine step (n == m) r' ?_ hr' rfl
              rw [hxi] at h3
              split at h3
              · rename_i k2 hk2
                rw [hk2] at hd
                cases dd <;> first | exact hd.elim | skip
                exact run_equalIn_int w d f.type k _ n m hu
              · simp [isI] at h3
              · cases h3
            · cases he
          | _ => rw [hxi, hyi] at he; simp [eqV] at he
        | bool n =>
          cases hyi : ys[i] with
          | bool m =>
            rw [hxi, hyi] at he
            simp only [eqV] at he
            obtain ⟨r', hr', rfl⟩ := Option.map_eq_some_iff.1 he
            rw [hxi] at hrx; rw [hyi] at hry
            have := hrx.bool_inv; have := hry.bool_inv; subst X; subst Y
            refine step (n == m) r' ?_ hr' rfl
            rw [hxi] at h3
            split at h3
            · simp [isI] at h3
            · rename_i hk2
              rw [hk2] at hd
              cases dd <;> first | exact hd.elim | skip
              exact run_equalIn_bool' w d f.type n m hu
            · cases h3
          | _ => rw [hxi, hyi] at he; simp [eqV] at he
        | _ => rw [hxi] at he; cases hyi : ys[i] <;> simp [hyi, eqV] at he

theorem abin3_sound (hT : TOk P T) (s : St P C ρ (lh L) fr a w) (op : BinOp) (t t' : TypeId) (x y : Operand) (hk : abin3 P T op t (ev fr x) (ev fr y) fun v => K v L) :
    SemK P C fr a K (do eqGuard op t x y (a.eval x) (a.eval y); binOp op t (a.eval x) (a.eval y)) w := by
  have hx := ev_rel s.fr x
  have hy := ev_rel s.fr y
  by_cases hag : ∃ xs ys, ev fr x = .agg xs ∧ ev fr y = .agg ys
  · obtain ⟨xs, ys, e1, e2⟩ := hag
    rw [e1, e2, abin3_agg] at hk
    rw [e1] at hx
    rw [e2] at hy
    obtain ⟨⟨hok, hlen⟩, k1⟩ := hk
    obtain ⟨r, hr, k2⟩ := optK_ex k1
    obtain ⟨Xs, hX, hxs⟩ := hx.agg_inv
    obtain ⟨Ys, hY, hys⟩ := hy.agg_inv
    rw [hX, hY]
    unfold eqOkN at hok
    cases hu : P.underlying t with
    | none => simp [hu] at hok
    | some dd =>
      rw [hu] at hok
      cases dd <;> first | (simp at hok; done) | skip
      rename_i fs
      simp only [Bool.and_eq_true, Bool.not_eq_true', beq_iff_eq] at hok
      obtain ⟨⟨⟨q1, q2⟩, q3⟩, q4⟩ := hok
      have hfo : P.fieldsOf t = fs := by simp [Program.fieldsOf, hu]
      have hfs : (Op.equalIn 10000 t (.agg Xs.toArray) (.agg Ys.toArray)).run P w = .ok r w := by
        rw [show (10000 : Nat) = 9998 + 1 + 1 from rfl, run_equalIn_agg w (9998 + 1) t _ _ (by rw [hfo]; exact hu) q1, hfo]
        exact eqFields_sound hT 9998 xs ys Xs Ys hxs hys fs.toList 0 r (by simpa using q3) (by simp at q4; simp [q4]) (by simpa using hr)
      rcases eqT_ex k2 with ⟨rfl, k3⟩ | ⟨rfl, k3⟩
      · refine SemK.same s (V := .bool r) ?_ (.bool _) k3
        simp only [Sem.run_bind, run_eqGuard_agg w .eql t x y _ _ q2, Result.andThen_ok, run_eql_struct, hfs]
      · refine SemK.same s (V := .bool (!r)) ?_ (.bool _) k3
        simp only [Sem.run_bind, run_eqGuard_agg w .neq t x y _ _ q2, Result.andThen_ok, run_neq_struct, hfs]
  · refine astep_binOp hT s op t t' x y ?_
    simp only [astep]
    unfold abin3 at hk
    split at hk
    · rename_i xs ys e1 e2; exact absurd ⟨xs, ys, e1, e2⟩ hag
    · exact hk
end
end Go.Proofs.Ytbfefpkhalegmaa

set_option linter.unusedVariables false
set_option linter.unusedSimpArgs false
namespace Go.Proofs.Ytbfefpkhalegmaa
open Go

section
variable {P : Program} {T : TyTab} {C : Ctx} {ρ ρ' : Nat → Pl} {h h' : Heap} {fr : List AV} {a : Act} {w w' : World} {L : List AObj} {K : AV → List AObj → Prop}

theorem astep_len (hT : TOk P T) (s : St P C ρ (lh L) fr a w) (ty : TypeId) (args : Array Operand) (argTypes : Array TypeId)
    (hk : astep T (.call { callee := .builtin .len, args, argTypes }) fr L K) : SemK P C fr a K (Builtin.len_ argTypes ty (args.map a.eval)) w := by
  simp only [astep] at hk
  obtain ⟨x, hx, k1⟩ := optK_ex hk
  obtain ⟨t, ht, k2⟩ := optK_ex k1
  obtain ⟨ti, hti, k3⟩ := optK_ex k2
  have hrx := ev_rel s.fr x
  have eargs : (args.map a.eval)[0]? = some (a.eval x) := by
    simp only [Array.getElem?_map]; simp at hx; simp [hx]
  have etys : argTypes[0]? = some t := by simpa using ht
  have hu := (hT t ti hti).run_underlying
  split at k3
  · rename_i e he
    have hu := fun w => (hT t ti hti).slice he w
    have fin : ∀ (b : Option Addr) (n c : Nat), a.eval x = .slice b n c → K (.int .i64 n) L → SemK P C fr a K (Builtin.len_ argTypes ty (args.map a.eval)) w := by
      intro b n c hX hK
      refine SemK.same s (V := .int .i64 n) ?_ (.int _ _) hK
      simp [Builtin.len_, eargs, etys, hu, hX, goInt]
    generalize ev fr x = vx at hrx k3
    generalize hX : a.eval x = X at hrx
    rcases slK_ex k3 with ⟨i, o, l, rfl, k4⟩ | ⟨rfl, k4⟩ | ⟨rfl, k4⟩
    · cases hrx with
      | slice _ _ _ cap _ _ _ => exact fin _ _ _ hX k4
      | slice0 _ _ _ _ => exact fin _ _ _ hX k4
    · cases hrx; exact fin _ _ _ hX k4
    · cases hrx; exact fin _ _ _ hX k4
  · rename_i n e he
    have hu := fun w => (hT t ti hti).arr he w
    refine SemK.same s (V := .int .i64 n) ?_ (.int _ _) k3
    simp [Builtin.len_, eargs, etys, hu, goInt]
  · rename_i he
    obtain ⟨d, hu, hd⟩ := (hT t ti hti).run_underlying
    rw [he] at hd
    cases d <;> first | exact hd.elim | skip
    split at k3
    · rename_i str hs
      rw [hs] at hrx
      generalize hX : a.eval x = X at hrx
      cases hrx
      refine SemK.same s (V := .int .i64 str.size) ?_ (.int _ _) k3
      simp [Builtin.len_, eargs, etys, hu, goInt, hX]
    · exact k3.elim
  · exact k3.elim

theorem astep_mm (isMin : Bool) (s : St P C ρ (lh L) fr a w) (ty : TypeId) (args : Array Operand) (argTypes : Array TypeId)
    (hk : astep.mm fr isMin args.toList fun v => K v L) :
    SemK P C fr a K (if isMin then Builtin.min_ argTypes ty (args.map a.eval) else Builtin.max_ argTypes ty (args.map a.eval)) w := by
  obtain ⟨l⟩ := args
  cases l with
  | nil => exact hk.elim
  | cons x xs =>
    simp only [astep.mm] at hk
    obtain ⟨k, n, hx, k1⟩ := intK_ex hk
    have hr := ev_rel s.fr x
    rw [hx] at hr
    obtain ⟨v, V, h1, h2, h3⟩ := mm_sound (P := P) (w := w) isMin s xs k n _ k1
    refine SemK.same s (V := V) ?_ h2 h3
    cases isMin
    · simpa [Builtin.max_, hr.int_inv] using h1
    · simpa [Builtin.min_, hr.int_inv] using h1

/-- The callee, and how it is called. -/
def Callable (P : Program) (f : FuncId) : Prop := ∃ fn, P.funcs[f]? = some fn ∧ (fn.name == "runtime.NumGoroutine") = false ∧ fn.body.isNone = false

theorem run_callFunc {f : FuncId} (hc : Callable P f) (args : Array Value) (w : World) : (callFunc f args).run P w = .ok (.enter f args) w := by
  obtain ⟨fn, hf, hn, hb⟩ := hc
  simp only [callFunc, Sem.run_bind, run_program, Result.andThen_ok, hf, hn, hb, Bool.false_eq_true, if_false, Sem.run_pure]

def fnK (v : AV) (k : FuncId → List AV → Prop) : Prop := match v with | .fn (.func f) caps => k f caps | _ => False
theorem fnK_fn (f : FuncId) (caps : List AV) (k : FuncId → List AV → Prop) : fnK (.fn (.func f) caps) k = k f caps := nrf rfl
theorem fnK_congr (v v' : AV) (k : FuncId → List AV → Prop) (h : v = v') : fnK v k = fnK v' k := by rw [h]
theorem fnK_ex {v : AV} {k : FuncId → List AV → Prop} (h : fnK v k) : ∃ f caps, v = .fn (.func f) caps ∧ k f caps := by
  cases v with
  | fn f caps => cases f <;> first | exact ⟨_, _, rfl, h⟩ | exact h.elim
  | _ => exact h.elim

/-- A call in the middle of code. -/
def callK (P : Program) (f : FuncId) (args : List AV) (L : List AObj) (K : AV → List AObj → Prop) (_ : Bx K := .mk) : Prop :=
  Callable P f ∧ (∃ r L', K r L') ∧ ACall P f args (lh L) fun r h' => ∃ L', h' = lh L' ∧ K r L'

def aop (P : Program) (T : TyTab) (o : Op) (fr : List AV) (L : List AObj) (K : AV → List AObj → Prop) : Prop :=
  match o with
  | .call { callee := .value f, args, argTypes := _ } => fnK (ev fr f) fun fid caps => callK P fid (args.toList.map (ev fr) ++ caps) L K
  | .call { callee := .builtin .append, args, argTypes } => if args.size = 2 ∧ argTypes.size = 2 then astep T o fr L K else False
  | .buildSlice t n parts => if n = 0 → parts.size = 0 then astep T o fr L K else False
  | .binOp op t x y _ => abin3 P T op t (ev fr x) (ev fr y) fun v => K v L
  | .convert s t x => acv T s t (ev fr x) L K
  | o => astep T o fr L K

def putA (fr : List AV) (d : Option Tmp) (v : AV) : List AV := match d with | some d => fr.set d v | none => fr
theorem putA_some (fr : List AV) (d : Tmp) (v : AV) : putA fr (some d) v = fr.set d v := nrf rfl
theorem putA_none (fr : List AV) (v : AV) : putA fr none v = fr := nrf rfl

/-- A guard's value; where the operation that gives it was skipped, this one is. -/
def guK (v : AV) (f : Bool → Prop) (no : Prop) (_ : Bx no := .mk) : Prop := match v with | .bool b => f b | .tup [] => no | _ => False
theorem guK_bool (b : Bool) (f : Bool → Prop) (no : Prop) : guK (.bool b) f no = f b := nrf rfl
theorem guK_no (f : Bool → Prop) (no : Prop) : guK (.tup []) f no = no := nrf rfl
theorem guK_congr (v v' : AV) (f : Bool → Prop) (no : Prop) (h : v = v') : guK v f no = guK v' f no := by rw [h]
theorem guK_ex {v : AV} {f : Bool → Prop} {no : Prop} (h : guK v f no) : (∃ b, v = .bool b ∧ f b) ∨ (v = .tup [] ∧ no) := by
  unfold guK at h
  split at h
  · exact .inl ⟨_, rfl, h⟩
  · exact .inr ⟨rfl, h⟩
  · exact h.elim

def gdK (all : List Oper) (g : Option (Nat × Bool)) (fr : List AV) (yes no : Prop) : Prop :=
  match g with
  | none => yes
  | some (j, want) => optK all[j]? fun oj => optK oj.dst fun d => guK (fr.getD d .junk) (fun b => condK (b == want) yes no) no

theorem St.put (s : St P C ρ h fr a w) (d : Option Tmp) {v : AV} {V : Value} (hv : VRel (born h) ρ v V) : St P C ρ h (putA fr d v) (a.put d V) w := by
  cases d with
  | none => exact s
  | some d =>
    refine ⟨s.sim, ?_, s.defers, s.kept, s.mine, s.old⟩
    simp only [putA, Act.put, Array.toList_setIfInBounds]
    exact s.fr.set d hv

/-- What an operation leaves, in the model's own word. -/
theorem wp_of_SemK {o : Oper} {next : Act → World → Prop} {Q : Exit → Act → World → Prop} {X : Sem Value} (hex : execOp a.eval o = (do pure (Next.value (← X)))) (hk : SemK P C fr a K X w)
    (hn : ∀ ρ' v V L' w', St P C ρ' (lh L') (putA fr o.dst v) (a.put o.dst V) w' → K v L' → next (a.put o.dst V) w') : o.wp P a w next Q := by
  obtain ⟨V, w', ρ', v, L', hr, hs, hv, hK⟩ := hk
  unfold Oper.wp
  rw [hex]
  simp only [Sem.run_bind, hr, Result.andThen_ok, Sem.run_pure]
  exact hn ρ' v V L' w' (hs.put o.dst hv) hK

theorem aop_sound (hT : TOk P T) (s : St P C ρ (lh L) fr a w) (o : Oper) {next : Act → World → Prop} {Q : Exit → Act → World → Prop} (hk : aop P T o.op fr L K)
    (hn : ∀ ρ' v V L' w', St P C ρ' (lh L') (putA fr o.dst v) (a.put o.dst V) w' → K v L' → next (a.put o.dst V) w') : o.wp P a w next Q := by
  obtain ⟨dst, op, ty, pos, after, guard⟩ := o
  cases op with
  | move x => exact hn ρ _ _ L w (s.put dst (ev_rel s.fr x)) hk
  | assign x => exact hn ρ _ _ L w (s.put dst (ev_rel s.fr x)) hk
  | pick c x y =>
    obtain ⟨b, hb, k1⟩ := boolK_ex hk
    have hr := ev_rel s.fr c
    rw [hb] at hr
    unfold Oper.wp
    simp only [execOp, hr.bool_inv, Sem.run_bind, asBool, Sem.run_pure, Result.andThen_ok]
    refine hn ρ _ _ L w (s.put dst (v := pickv b (ev fr x) (ev fr y)) ?_) k1
    cases b
    · exact ev_rel s.fr y
    · exact ev_rel s.fr x
  | alloc t => exact wp_of_SemK rfl (astep_alloc hT s t hk) hn
  | box t x => exact wp_of_SemK rfl (astep_box hT s t x hk) hn
  | build t parts => exact wp_of_SemK rfl (astep_build hT s t parts hk) hn
  | buildSlice t n parts =>
    simp only [aop] at hk
    split at hk
    · rename_i h0
      exact wp_of_SemK rfl (astep_buildSlice hT s t n parts hk (fun e => by simpa using h0 e)) hn
    · exact hk.elim
  | load t x => exact wp_of_SemK rfl (astep_load hT s t x hk) hn
  | store t x y =>
    obtain ⟨w', L', hr, hs, hK⟩ := astep_store hT s t x y hk
    unfold Oper.wp
    simp only [execOp, Sem.run_bind, hr, Result.andThen_ok, Sem.run_pure]
    exact hn ρ _ undef L' w' (hs.put dst (.junk undef)) hK
  | nilCheck x =>
    have hk' : nilK (ev fr x) (fun v => K v L) := hk
    obtain ⟨i, o, hx, k1⟩ := nilK_ex hk'
    have hr := ev_rel s.fr x
    rw [hx] at hr
    unfold Oper.wp
    simp only [execOp, hr.ptr_inv.2, Sem.run_pure]
    exact hn ρ _ _ L w (s.put dst (v := .ptr i o) (by rw [← hr.ptr_inv.2]; exact hr)) k1
  | binOp op t x y t' => exact wp_of_SemK rfl (abin3_sound hT s op t t' x y hk) hn
  | unOp op t x => exact wp_of_SemK rfl (astep_unOp (T := T) s op t x hk) hn
  | convert st t x => exact wp_of_SemK rfl (acv_sound hT s st t x hk) hn
  | makeFunc f first caps => exact wp_of_SemK rfl (astep_makeFunc (T := T) s f first caps hk) hn
  | makeSlice t x y => exact wp_of_SemK rfl (astep_makeSlice hT s t x y hk) hn
  | slice t x lo hi mx =>
    cases mx with
    | none => exact wp_of_SemK rfl (astep_slice hT s t x lo hi hk) hn
    | some m => exact hk.elim
  | fieldAddr t x f => exact wp_of_SemK rfl (astep_fieldAddr hT s t x f hk) hn
  | field t x f => exact wp_of_SemK rfl (astep_field hT s t x f hk) hn
  | indexAddr t x ix => exact wp_of_SemK rfl (astep_indexAddr hT s t x ix hk) hn
  | index t x ix => exact wp_of_SemK rfl (astep_index hT s t x ix hk) hn
  | extract x n => exact wp_of_SemK rfl (astep_extract (T := T) s x n hk) hn
  | call c =>
    obtain ⟨callee, args, argTypes⟩ := c
    cases callee with
    | invoke r m => exact hk.elim
    | builtin b =>
      cases b <;> first | exact hk.elim | skip
      case append =>
        simp only [aop] at hk
        split at hk
        · rename_i h2
          exact wp_of_SemK rfl (astep_append hT s ty args argTypes h2.1 h2.2 hk) hn
        · exact hk.elim
      case len => exact wp_of_SemK rfl (astep_len hT s ty args argTypes hk) hn
      case max => exact wp_of_SemK rfl (astep_mm false s ty args argTypes hk) hn
      case min => exact wp_of_SemK rfl (astep_mm true s ty args argTypes hk) hn
    | value f =>
      simp only [aop] at hk
      obtain ⟨fid, caps, hf, hcb, _, hc⟩ := fnK_ex hk
      have hr := ev_rel s.fr f
      rw [hf] at hr
      have hargs := evs_rel s.fr args.toList
      have key : ∃ vs : List Value, a.eval f = .func (.func fid) #[] vs.toArray ∧ VsRel (born (lh L)) ρ caps vs := by
        generalize a.eval f = F at hr; cases hr; exact ⟨_, rfl, ‹_›⟩
      obtain ⟨vs, hF, hvs⟩ := key
      unfold Oper.wp
      have hex : (execOp a.eval { dst := dst, op := .call { callee := .value f, args, argTypes }, type := ty, pos := pos, after := after, guard := guard }).run P w = .ok (.enter fid ((args.toList.map a.eval) ++ vs).toArray) w := by
        simp only [execOp, resolve, hF, Deferred.ofValue, Sem.run_bind, Sem.run_pure, Result.andThen_ok, invoke]
        rw [run_callFunc hcb]
        congr 2
        apply Array.ext'; simp
      rw [hex]
      simp only [Oper.upon]
      refine Calls.mono (hc ρ w _ s.sim (hargs.append hvs)) ?_
      rintro e w' ⟨ρ', r, h', v, rfl, ⟨L', rfl, hK⟩, hsim, hv, hkept, hold, hmine⟩
      have s' : St P C ρ' (lh L') fr a w' := by
        refine s.next hsim (fun i hi => ⟨(hold i hi).2, (hold i hi).1⟩) hkept ?_ ?_
        · rintro k ⟨i, hi, rfl⟩; exact s.mine i hi
        · intro i hi
          rcases hmine i hi with ⟨j, hj, e⟩ | hle
          · rw [← e]; exact s.mine j hj
          · exact .inr (Nat.le_trans s.kept.size hle)
      exact hn ρ' r v L' w' (s'.put dst hv) hK
  | _ => exact hk.elim
end
end Go.Proofs.Ytbfefpkhalegmaa

set_option linter.unusedVariables false
set_option linter.unusedSimpArgs false
namespace Go.Proofs.Ytbfefpkhalegmaa
open Go

abbrev Post := Exit → List AV → List AObj → Prop

def AOps (P : Program) (T : TyTab) (all : List Oper) : List Oper → (List AV → List AObj → Prop) → List AV → List AObj → Prop
  | [], Q, fr, L => Q fr L
  | o :: rest, Q, fr, L => gdK all o.guard fr (aop P T o.op fr L fun v L' => AOps P T all rest Q (putA fr o.dst v) L') (AOps P T all rest Q (putA fr o.dst (.tup [])) L)

/-- What holds behind a piece of code. -/
def lift (P : Program) (C : Ctx) (Q : Post) : Exit → Act → World → Prop := fun e a w => ∃ ρ fr L, St P C ρ (lh L) fr a w ∧ Q e fr L

def loopK (P : Program) (C : Ctx) (c : Code) (Q : Post) (fr : List AV) (L : List AObj) (_ : Bx c := .mk) (_ : Bx Q := .mk) : Prop :=
  ∀ ρ a w, St P C ρ (lh L) fr a w → (Code.loop c).wp P (lift P C Q) a w
def drawK (P : Program) (C : Ctx) (id : Nat) (ops : Array Oper) (Q : List AV → List AObj → Prop) (fr : List AV) (L : List AObj) (_ : Bx ops := .mk) (_ : Bx Q := .mk) : Prop :=
  ∀ ρ a w, St P C ρ (lh L) fr a w → (Code.region id ops true).wp P (lift P C fun e fr L => match e with | .normal => Q fr L | _ => False) a w

def thenK (N : List AV → List AObj → Prop) (Q : Post) : Post := fun e fr L => match e with | .normal => N fr L | e => Q e fr L
def blkK (i : Nat) (Q : Post) : Post := fun e fr L => match e with | .exit j => if j = i then Q .normal fr L else Q (.exit j) fr L | e => Q e fr L
theorem thenK_normal (N : List AV → List AObj → Prop) (Q : Post) (fr : List AV) (L : List AObj) : thenK N Q .normal fr L = N fr L := nrf rfl
theorem thenK_exit (N : List AV → List AObj → Prop) (Q : Post) (i : Nat) (fr : List AV) (L : List AObj) : thenK N Q (.exit i) fr L = Q (.exit i) fr L := nrf rfl
theorem thenK_ret (N : List AV → List AObj → Prop) (Q : Post) (fr : List AV) (L : List AObj) : thenK N Q .ret fr L = Q .ret fr L := nrf rfl
theorem blkK_normal (i : Nat) (Q : Post) (fr : List AV) (L : List AObj) : blkK i Q .normal fr L = Q .normal fr L := nrf rfl
theorem blkK_ret (i : Nat) (Q : Post) (fr : List AV) (L : List AObj) : blkK i Q .ret fr L = Q .ret fr L := nrf rfl
theorem blkK_exit (i j : Nat) (Q : Post) (fr : List AV) (L : List AObj) : blkK i Q (.exit j) fr L = condK (j == i) (Q .normal fr L) (Q (.exit j) fr L) := by
  by_cases h : j = i
  · subst h; simp [blkK, condK]
  · simp [blkK, condK, h]

def vc (P : Program) (T : TyTab) (C : Ctx) : Code → Post → List AV → List AObj → Prop
  | .skip, Q => Q .normal
  | .label _, Q => Q .normal
  | .exit i, Q => Q (.exit i)
  | .ret, Q => Q .ret
  | .seq x y, Q => vc P T C x (thenK (vc P T C y Q) Q)
  | .cond c x y, Q => fun fr L => boolK (ev fr c) fun t => condK t (vc P T C x Q fr L) (vc P T C y Q fr L)
  | .block i c, Q => vc P T C c (blkK i Q)
  | .region id ops false, Q => AOps P T ops.toList ops.toList (Q .normal)
  | .region id ops true, Q => fun fr L => drawK P C id ops (Q .normal) fr L
  | .loop c, Q => fun fr L => loopK P C c Q fr L
  | _, _ => fun _ _ => False

section
variable {P : Program} {T : TyTab} {C : Ctx} {ρ : Nat → Pl} {fr : List AV} {a : Act} {w : World} {L : List AObj}

theorem yielded_of {ops : Array Oper} {j d : Nat} {oj : Oper} {b : Bool} (s : VsRel (born (lh L)) ρ fr a.tmps.toList) (hj : ops.toList[j]? = some oj) (hd : oj.dst = some d) (hb : fr.getD d .junk = .bool b) :
    yielded ops a.tmps j = some b := by
  have hj' : ops[j]? = some oj := by simpa using hj
  have hfd : fr[d]? = some (.bool b) := by
    cases h : fr[d]? with
    | none => simp [List.getD, h] at hb
    | some v => simp [List.getD, h] at hb; rw [hb]
  obtain ⟨V, hV, hr⟩ := s.get d _ hfd
  have hV' : a.tmps[d]? = some V := by simpa using hV
  simp [yielded, hj', hd, hV', hr.bool_inv]

theorem yielded_not {ops : Array Oper} {j d : Nat} {oj : Oper} (s : VsRel (born (lh L)) ρ fr a.tmps.toList) (hj : ops.toList[j]? = some oj) (hd : oj.dst = some d) (hb : fr.getD d .junk = .tup []) :
    yielded ops a.tmps j = none := by
  have hj' : ops[j]? = some oj := by simpa using hj
  have hfd : fr[d]? = some (.tup []) := by
    cases h : fr[d]? with
    | none => simp [List.getD, h] at hb
    | some v => simp [List.getD, h] at hb; rw [hb]
  obtain ⟨V, hV, hr⟩ := s.get d _ hfd
  have hV' : a.tmps[d]? = some V := by simpa using hV
  obtain ⟨Vs, rfl, _⟩ := hr.tup_inv
  simp [yielded, hj', hd, hV']

theorem AOps_sound (hT : TOk P T) {ops : Array Oper} {Q : Exit → Act → World → Prop} {Q' : List AV → List AObj → Prop}
    (hQ : ∀ ρ fr L a w, St P C ρ (lh L) fr a w → Q' fr L → Q .normal a w) : ∀ (n k : Nat) (ρ : Nat → Pl) (fr : List AV) (L : List AObj) (a : Act) (w : World), k + n = ops.size → St P C ρ (lh L) fr a w →
    AOps P T ops.toList (ops.toList.drop k) Q' fr L → wpOps P ops Q (List.range' k n) a w := by
  intro n
  induction n with
  | zero =>
    intro k ρ fr L a w hk s h
    rw [List.drop_of_length_le (by simp; omega)] at h
    exact hQ ρ fr L a w s h
  | succ n ih =>
    intro k ρ fr L a w hk s h
    have hlt : k < ops.size := by omega
    rw [List.drop_eq_getElem_cons (by simpa using hlt)] at h
    rw [List.range'_succ, wpOps_cons]
    simp only [AOps, Array.getElem_toList] at h
    unfold wpOp
    have ho : ops[k]? = some ops[k] := by simp [hlt]
    rw [ho]
    simp only []
    have run : aop P T ops[k].op fr L (fun v L' => AOps P T ops.toList (ops.toList.drop (k + 1)) Q' (putA fr ops[k].dst v) L') → ops[k].wp P a w (wpOps P ops Q (List.range' (k + 1) n)) Q :=
      fun hk' => aop_sound hT s _ hk' (fun ρ' v V L' w' s' h' => ih (k + 1) ρ' _ L' _ w' (by omega) s' h')
    have skip : AOps P T ops.toList (ops.toList.drop (k + 1)) Q' (putA fr ops[k].dst (.tup [])) L → wpOps P ops Q (List.range' (k + 1) n) (a.put ops[k].dst undef) w :=
      fun h' => ih (k + 1) ρ _ L _ w (by omega) (s.put _ (.tup [] [] .nil)) h'
    unfold gdK at h
    cases hg : ops[k].guard with
    | none =>
      rw [hg] at h
      rw [if_pos (by simp [Region.wanted, hg])]
      exact .inl (run h)
    | some g =>
      obtain ⟨j, want⟩ := g
      rw [hg] at h
      simp only [] at h
      obtain ⟨oj, hj, k1⟩ := optK_ex h
      obtain ⟨d, hd, k2⟩ := optK_ex k1
      rcases guK_ex k2 with ⟨b, hb, k3⟩ | ⟨hb, k3⟩
      case inr =>
        rw [if_neg (by simp [Region.wanted, hg, yielded_not s.fr hj hd hb])]
        exact skip k3
      have hy := yielded_of s.fr hj hd hb
      by_cases hbw : b = want
      · subst hbw
        rw [if_pos (by simp [Region.wanted, hg, hy])]
        simp only [beq_self_eq_true, condK_true] at k3
        exact .inl (run k3)
      · rw [if_neg (by simp [Region.wanted, hg, hy, hbw])]
        have : (b == want) = false := by simpa using hbw
        rw [this, condK_false] at k3
        exact skip k3

theorem lift_mono {Q Q' : Post} (h : ∀ e fr L, Q e fr L → Q' e fr L) {e : Exit} {a : Act} {w : World} (hl : lift P C Q e a w) : lift P C Q' e a w := by
  obtain ⟨ρ, fr, L, s, hq⟩ := hl
  exact ⟨ρ, fr, L, s, h _ _ _ hq⟩

theorem vc_sound (hT : TOk P T) : ∀ (c : Code) (Q : Post) (ρ : Nat → Pl) (fr : List AV) (L : List AObj) (a : Act) (w : World), St P C ρ (lh L) fr a w → vc P T C c Q fr L → c.wp P (lift P C Q) a w
  | .skip, Q, ρ, fr, L, a, w, s, h => wp_skip ⟨ρ, fr, L, s, h⟩
  | .label _, Q, ρ, fr, L, a, w, s, h => wp_label ⟨ρ, fr, L, s, h⟩
  | .exit i, Q, ρ, fr, L, a, w, s, h => wp_exit ⟨ρ, fr, L, s, h⟩
  | .ret, Q, ρ, fr, L, a, w, s, h => wp_ret ⟨ρ, fr, L, s, h⟩
  | .seq x y, Q, ρ, fr, L, a, w, s, h => by
    refine wp_seq (wp_mono (vc_sound hT x _ ρ fr L a w s h) ?_)
    rintro e a' w' ⟨ρ', fr', L', s', hq⟩
    cases e <;> first | exact vc_sound hT y Q ρ' fr' L' a' w' s' hq | exact ⟨ρ', fr', L', s', hq⟩
  | .cond c x y, Q, ρ, fr, L, a, w, s, h => by
    simp only [vc] at h
    obtain ⟨b, hb, k⟩ := boolK_ex h
    have hr := ev_rel s.fr c
    rw [hb] at hr
    refine wp_cond hr.bool_inv ?_
    cases b
    · exact vc_sound hT y Q ρ fr L a w s k
    · exact vc_sound hT x Q ρ fr L a w s k
  | .block i c, Q, ρ, fr, L, a, w, s, h => by
    refine wp_block (wp_mono (vc_sound hT c _ ρ fr L a w s h) ?_)
    rintro e a' w' ⟨ρ', fr', L', s', hq⟩
    cases e <;> first | exact ⟨ρ', fr', L', s', hq⟩ | skip
    rename_i j
    simp only [blkK] at hq
    simp only [Exit.inBlock]
    split at hq
    · rename_i hj; rw [if_pos hj]; exact ⟨ρ', fr', L', s', hq⟩
    · rename_i hj; rw [if_neg hj]; exact ⟨ρ', fr', L', s', hq⟩
  | .region id ops false, Q, ρ, fr, L, a, w, s, h => by
    refine wp_region ?_
    rw [List.range_eq_range']
    exact AOps_sound hT (Q' := Q .normal) (fun ρ fr L a w s h => ⟨ρ, fr, L, s, h⟩) ops.size 0 ρ fr L a w (by omega) s (by have h' : AOps P T ops.toList ops.toList (Q .normal) fr L := h; simpa using h')
  | .region id ops true, Q, ρ, fr, L, a, w, s, h => by
    refine wp_mono (h ρ a w s) ?_
    rintro e a' w' ⟨ρ', fr', L', s', hq⟩
    cases e <;> first | exact ⟨ρ', fr', L', s', hq⟩ | exact hq.elim
  | .loop c, Q, ρ, fr, L, a, w, s, h => h ρ a w s
  | .rangeFunc .., Q, ρ, fr, L, a, w, s, h => by simp only [vc] at h
  | .scope _, Q, ρ, fr, L, a, w, s, h => by simp only [vc] at h
  | .goto _, Q, ρ, fr, L, a, w, s, h => by simp only [vc] at h
  | .refuse _, Q, ρ, fr, L, a, w, s, h => by simp only [vc] at h
end
end Go.Proofs.Ytbfefpkhalegmaa

set_option linter.unusedVariables false
set_option linter.unusedSimpArgs false
namespace Go.Proofs.Ytbfefpkhalegmaa
open Go

mutual
def ren (σ : Nat → Nat) : AV → AV
  | .ptr i o => .ptr (σ i) o
  | .slice i o l => .slice (σ i) o l
  | .fn f caps => .fn f (rens σ caps)
  | .agg cs => .agg (rens σ cs)
  | .tup cs => .tup (rens σ cs)
  | v => v
def rens (σ : Nat → Nat) : List AV → List AV
  | [] => []
  | v :: vs => ren σ v :: rens σ vs
end
mutual
def okIn (B : Nat → Prop) : AV → Prop
  | .ptr i _ => B i
  | .slice i _ _ => B i
  | .fn _ caps => okIns B caps
  | .agg cs => okIns B cs
  | .tup cs => okIns B cs
  | _ => True
def okIns (B : Nat → Prop) : List AV → Prop
  | [] => True
  | v :: vs => okIn B v ∧ okIns B vs
end

section
variable {B B0 : Nat → Prop} {ρ : Nat → Pl} {σ : Nat → Nat}
mutual
theorem VRel.pull (v : AV) {V : Value} (h : VRel B ρ (ren σ v) V) (hk : okIn B0 v) : VRel B0 (fun i => ρ (σ i)) v V := by
  cases v with
  | bool b => simp only [ren] at h; cases h; exact .bool b
  | int k n => simp only [ren] at h; cases h; exact .int k n
  | str s => simp only [ren] at h; cases h; exact .str s
  | ptr i o => simp only [ren] at h; simp only [okIn] at hk; cases h; exact .ptr (ρ := fun i => ρ (σ i)) i o hk
  | nilptr => simp only [ren] at h; cases h; exact .nilptr
  | slice i o l =>
    simp only [ren] at h; simp only [okIn] at hk
    cases h with
    | slice _ _ _ cap hb hl hc => exact .slice (ρ := fun i => ρ (σ i)) i o l cap hk hl hc
    | slice0 _ _ a hb => exact .slice0 i o a hk
  | nilslice => simp only [ren] at h; cases h; exact .nilslice
  | noslice => simp only [ren] at h; cases h; exact .noslice _
  | fn f caps =>
    simp only [ren] at h; simp only [okIn] at hk
    cases h with | fn _ _ vs hs => exact .fn f caps vs (VsRel.pull caps hs hk)
  | agg cs =>
    simp only [ren] at h; simp only [okIn] at hk
    cases h with | agg _ vs hs => exact .agg cs vs (VsRel.pull cs hs hk)
  | tup cs =>
    simp only [ren] at h; simp only [okIn] at hk
    cases h with | tup _ vs hs => exact .tup cs vs (VsRel.pull cs hs hk)
  | junk => exact .junk V
theorem VsRel.pull (vs : List AV) {Vs : List Value} (h : VsRel B ρ (rens σ vs) Vs) (hk : okIns B0 vs) : VsRel B0 (fun i => ρ (σ i)) vs Vs := by
  cases vs with
  | nil => simp only [rens] at h; cases h; exact .nil
  | cons v vs =>
    simp only [rens] at h; simp only [okIns] at hk
    cases h with | cons _ V _ Vs h hs => exact .cons _ _ _ _ (VRel.pull v h hk.1) (VsRel.pull vs hs hk.2)
end
mutual
theorem VRel.push (v : AV) {V : Value} (h : VRel B0 (fun i => ρ (σ i)) v V) (hB : ∀ i, B0 i → B (σ i)) : VRel B ρ (ren σ v) V := by
  cases v with
  | bool b => simp only [ren]; cases h; exact .bool b
  | int k n => simp only [ren]; cases h; exact .int k n
  | str s => simp only [ren]; cases h; exact .str s
  | ptr i o => simp only [ren]; cases h; exact .ptr (ρ := ρ) (σ i) o (hB i ‹_›)
  | nilptr => simp only [ren]; cases h; exact .nilptr
  | slice i o l =>
    simp only [ren]
    cases h with
    | slice _ _ _ cap hb hl hc => exact .slice (ρ := ρ) (σ i) o l cap (hB i hb) hl hc
    | slice0 _ _ a hb => exact .slice0 (σ i) o a (hB i hb)
  | nilslice => simp only [ren]; cases h; exact .nilslice
  | noslice => simp only [ren]; cases h; exact .noslice _
  | fn f caps => simp only [ren]; cases h with | fn _ _ vs hs => exact .fn f _ vs (VsRel.push caps hs hB)
  | agg cs => simp only [ren]; cases h with | agg _ vs hs => exact .agg _ vs (VsRel.push cs hs hB)
  | tup cs => simp only [ren]; cases h with | tup _ vs hs => exact .tup _ vs (VsRel.push cs hs hB)
  | junk => simp only [ren]; exact .junk V
theorem VsRel.push (vs : List AV) {Vs : List Value} (h : VsRel B0 (fun i => ρ (σ i)) vs Vs) (hB : ∀ i, B0 i → B (σ i)) : VsRel B ρ (rens σ vs) Vs := by
  cases vs with
  | nil => simp only [rens]; cases h; exact .nil
  | cons v vs => simp only [rens]; cases h with | cons _ V _ Vs h hs => exact .cons _ _ _ _ (VRel.push v h hB) (VsRel.push vs hs hB)
end
theorem rens_eq (vs : List AV) : rens σ vs = vs.map (ren σ) := by
  induction vs with
  | nil => rfl
  | cons v vs ih => rw [rens, ih]; rfl
theorem okIns_iff {vs : List AV} : okIns B vs ↔ ∀ v ∈ vs, okIn B v := by
  induction vs with
  | nil => simp [okIns]
  | cons v vs ih => simp [okIns, ih]
end

/-- An object of the small memory, and the one that it stands for. -/
def objM (σ : Nat → Nat) (B0 : Nat → Prop) (o0 o : AObj) : Prop :=
  match o0 with
  | .own cs e => o = .own (rens σ cs) e ∧ okIns B0 cs
  | .ro cs e => (o = .ro (rens σ cs) e ∨ o = .own (rens σ cs) e) ∧ okIns B0 cs
  | _ => True

section
variable {P : Program} {ρ : Nat → Pl} {h h0 : Heap} {w : World} {σ : Nat → Nat}
theorem Sim.pull (s : Sim P ρ h w) (hm : ∀ j, objM σ (born h0) (h0 j) (h (σ j))) (hi : ∀ i j, i ≠ j → (h0 i).isOwn → (h0 j).live → σ i ≠ σ j) : Sim P (fun i => ρ (σ i)) h0 w := by
  have getown : ∀ j cs e, h0 j = .own cs e → h (σ j) = .own (rens σ cs) e ∧ okIns (born h0) cs := by
    intro j cs e hj; have := hm j; rw [hj] at this; exact this
  have getro : ∀ j cs e, h0 j = .ro cs e → (h (σ j) = .ro (rens σ cs) e ∨ h (σ j) = .own (rens σ cs) e) ∧ okIns (born h0) cs := by
    intro j cs e hj; have := hm j; rw [hj] at this; exact this
  have hb : ∀ i, hasBlk (fun i => ρ (σ i)) h0 i → hasBlk ρ h (σ i) := by
    intro i ⟨h1, h2⟩
    cases e : h0 i with
    | own cs t => exact ⟨by simp [(getown i cs t e).1, AObj.isOwn], h2⟩
    | _ => simp [e, AObj.isOwn] at h1
  have hh : ∀ i, held (fun i => ρ (σ i)) h0 i → held ρ h (σ i) := by
    rintro i (h1 | ⟨cs, t, e, hne⟩)
    · exact .inl (hb i h1)
    · rcases (getro i cs t e).1 with e2 | e2
      · exact .inr ⟨_, t, e2, by rw [rens_eq]; simpa using hne⟩
      · refine .inl ⟨by simp [e2, AObj.isOwn], ?_⟩
        have := (s.own _ _ _ e2).2.2.2.1
        rw [rens_eq, List.length_map] at this
        have : 0 < cs.length := List.length_pos_iff.2 hne
        omega
  refine ⟨fun j cs e hj => ?_, fun j cs e hj => ?_, fun i j hij hio hjl => ?_⟩
  · obtain ⟨e1, hk⟩ := getown j cs e hj
    obtain ⟨h1, h2, h3, h4, h5⟩ := s.own _ _ _ e1
    rw [rens_eq, List.length_map] at h4
    refine ⟨h1, h2, h3, h4, fun ht => ?_⟩
    obtain ⟨c, h5, h6, h7⟩ := h5 ht
    refine ⟨c, h5, h6, fun l v hv => ?_⟩
    obtain ⟨V, hV, hr⟩ := h7 l (ren σ v) (by rw [rens_eq]; simp [hv])
    exact ⟨V, hV, hr.pull v (okIns_iff.1 hk v (List.mem_of_getElem? hv))⟩
  · obtain ⟨e1, hk⟩ := getro j cs e hj
    have hcells : ∀ (l : Nat) (v : AV), cs[l]? = some v → (h (σ j)).cells[l]? = some (ren σ v) := by
      intro l v hv
      rcases e1 with e1 | e1 <;> rw [e1] <;> simp [AObj.cells, rens_eq, hv]
    have hlive : (h (σ j)).live := by rcases e1 with e1 | e1 <;> simp [e1, AObj.live]
    refine ⟨?_, fun l v hv => ?_⟩
    · rcases e1 with e1 | e1
      · exact (s.ro _ _ _ e1).1
      · intro _; exact (s.own _ _ _ e1).2.2.1
    · obtain ⟨V, hV, hr⟩ := s.cell hlive (hcells l v hv)
      exact ⟨V, hV, hr.pull v (okIns_iff.1 hk v (List.mem_of_getElem? hv))⟩
  · have hjl' : (h0 j).live := by
      rcases hjl with h1 | ⟨cs, t, e, _⟩
      · exact live_of_own h1.1
      · simp [e, AObj.live]
    exact s.inj _ _ (hi i j hij hio.1 hjl') (hb i hio) (hh j hjl)
end

/-- A contract: told on its own small memory; what it makes lies behind that. -/
def LCall (P : Program) (f : FuncId) (args : List AV) (L : List AObj) (R : AV → List AObj → Prop) : Prop :=
  Callable P f ∧ ACall P f args (lh L) fun r h' => ∃ L', h' = lh L' ∧ L.length ≤ L'.length ∧ (∀ i cs e, lh L' i = .ro cs e → lh L i = .ro cs e) ∧ R r L'

/-- Where the objects of a callee lie in its caller's memory: those that are handed over, and behind all others what it makes. -/
def sig (s : List Nat) (n : Nat) (i : Nat) : Nat := if i < s.length then s.getD i 0 else n + (i - s.length)

def renO (σ : Nat → Nat) : AObj → AObj
  | .own cs e => .own (rens σ cs) e
  | .ro cs e => .ro (rens σ cs) e
  | o => o
def mset (L : List AObj) (i : Nat) (o0 o : AObj) : List AObj := match o0 with | .own _ _ => L.set i o | _ => L
theorem mset_own (L : List AObj) (i : Nat) (cs : List AV) (e : TypeId) (o : AObj) : mset L i (.own cs e) o = L.set i o := rfl
theorem mset_ro (L : List AObj) (i : Nat) (cs : List AV) (e : TypeId) (o : AObj) : mset L i (.ro cs e) o = L := rfl
theorem mset_length (L : List AObj) (i : Nat) (o0 o : AObj) : (mset L i o0 o).length = L.length := by cases o0 <;> simp [mset]
/-- The caller's memory behind a call. -/
def mrg (σ : Nat → Nat) : List Nat → List AObj → List AObj → List AObj → List AObj
  | i :: s, o0 :: L0, o :: L0', L => mrg σ s L0 L0' (mset L i o0 (renO σ o))
  | _, _, L0', L => L ++ L0'.map (renO σ)
def kindOf : AObj → Nat | .own _ _ => 1 | .ro _ _ => 2 | _ => 0
def injOk : List Nat → List Nat → Bool
  | i :: s, k :: ks => (List.zip s ks).all (fun p => p.1 != i || k == 0 || p.2 == 0 || (k != 1 && p.2 != 1)) && injOk s ks
  | _, _ => true
/-- The objects that are handed over. -/
def matK (σ : Nat → Nat) (B0 : Nat → Prop) (L : List AObj) : List Nat → List AObj → Prop
  | i :: s, o0 :: L0 => (objM σ B0 o0 (lh L i) ∧ i < L.length ∧ o0.live) ∧ matK σ B0 L s L0
  | [], [] => True
  | _, _ => False
end Go.Proofs.Ytbfefpkhalegmaa

set_option linter.unusedVariables false
set_option linter.unusedSimpArgs false
namespace Go.Proofs.Ytbfefpkhalegmaa
open Go

section
variable {σ : Nat → Nat}
theorem mrg_length : ∀ (s : List Nat) (L0 L0' L : List AObj), s.length = L0.length → L0.length ≤ L0'.length → (mrg σ s L0 L0' L).length = L.length + (L0'.length - s.length)
  | [], [], L0', L, _, _ => by cases L0' <;> simp [mrg]
  | i :: s, o0 :: L0, o :: L0', L, h1, h2 => by
    simp only [mrg]
    rw [mrg_length s L0 L0' _ (by simpa using h1) (by simpa using h2)]
    rw [mset_length]; simp
  | [], _ :: _, _, _, h1, _ => by simp at h1
  | _ :: _, [], _, _, h1, _ => by simp at h1
  | _ :: _, _ :: _, [], _, _, h2 => by simp at h2

theorem mrg_new : ∀ (s : List Nat) (L0 L0' L : List AObj) (j : Nat), s.length = L0.length → L0.length ≤ L0'.length → lh (mrg σ s L0 L0' L) (L.length + j) = renO σ (lh L0' (s.length + j))
  | [], [], L0', L, j, _, _ => by
    have : mrg σ [] [] L0' L = L ++ L0'.map (renO σ) := by cases L0' <;> simp [mrg]
    rw [this]
    simp only [lh, List.getD, List.length_nil, Nat.zero_add]
    rw [List.getElem?_append_right (by omega)]
    simp only [Nat.add_sub_cancel_left, List.getElem?_map]
    cases L0'[j]? <;> simp [renO]
  | i :: s, o0 :: L0, o :: L0', L, j, h1, h2 => by
    simp only [mrg]
    have hl := mset_length L i o0 (renO σ o)
    have := mrg_new s L0 L0' (mset L i o0 (renO σ o)) j (by simpa using h1) (by simpa using h2)
    rw [hl] at this
    rw [this]
    simp only [lh, List.getD, List.length_cons]
    rw [show s.length + 1 + j = (s.length + j) + 1 by omega, List.getElem?_cons_succ]
  | [], _ :: _, _, _, _, h1, _ => by simp at h1
  | _ :: _, [], _, _, _, h1, _ => by simp at h1
  | _ :: _, _ :: _, [], _, _, _, h2 => by simp at h2

theorem mrg_old : ∀ (s : List Nat) (L0 L0' L : List AObj) (k : Nat), s.length = L0.length → L0.length ≤ L0'.length → injOk s (L0.map kindOf) = true → k < L.length →
    (∃ i, s[i]? = some k ∧ (lh L0 i).isOwn ∧ i < L0.length ∧ lh (mrg σ s L0 L0' L) k = renO σ (lh L0' i)) ∨ ((∀ i, s[i]? = some k → ¬ (lh L0 i).isOwn) ∧ lh (mrg σ s L0 L0' L) k = lh L k)
  | [], [], L0', L, k, _, _, _, hk => by
    right
    have : mrg σ [] [] L0' L = L ++ L0'.map (renO σ) := by cases L0' <;> simp [mrg]
    rw [this]
    exact ⟨by simp, by simp [lh, List.getElem?_append_left hk]⟩
  | i :: s, o0 :: L0, o :: L0', L, k, h1, h2, h3, hk => by
    simp only [mrg]
    simp only [List.map_cons, injOk, Bool.and_eq_true, List.all_eq_true] at h3
    have hl := mset_length L i o0 (renO σ o)
    have hlh : ∀ j, lh (o0 :: L0) (j + 1) = lh L0 j := fun j => by simp [lh]
    have hlh' : ∀ j, lh (o :: L0') (j + 1) = lh L0' j := fun j => by simp [lh]
    rcases mrg_old s L0 L0' (mset L i o0 (renO σ o)) k (by simpa using h1) (by simpa using h2) h3.2 (by rw [hl]; exact hk) with ⟨j, hj, ho, hjl, hm⟩ | ⟨hno, hm⟩
    · exact .inl ⟨j + 1, by simpa using hj, by rw [hlh]; exact ho, by simp; omega, by rw [hm, hlh']⟩
    · by_cases hik : i = k ∧ o0.isOwn
      · obtain ⟨rfl, ho⟩ := hik
        left
        refine ⟨0, rfl, by simpa [lh] using ho, by simp, ?_⟩
        rw [hm]
        cases o0 <;> first | (simp [AObj.isOwn] at ho; done) | simp [lh, mset, hk]
      · right
        refine ⟨fun j hj => ?_, ?_⟩
        · cases j with
          | zero =>
            simp at hj
            intro ho
            exact hik ⟨hj, by simpa [lh] using ho⟩
          | succ j => rw [hlh]; exact hno j (by simpa using hj)
        · rw [hm]
          cases o0 with
          | own cs e =>
            have : i ≠ k := fun e' => hik ⟨e', by simp [AObj.isOwn]⟩
            simp [lh, mset, List.getD, List.getElem?_set, this]
          | _ => rfl
  | [], _ :: _, _, _, _, h1, _, _, _ => by simp at h1
  | _ :: _, [], _, _, _, h1, _, _, _ => by simp at h1
  | _ :: _, _ :: _, [], _, _, _, h2, _, _ => by simp at h2

theorem matK_length {B0 : Nat → Prop} {L : List AObj} : ∀ (s : List Nat) (L0 : List AObj), matK σ B0 L s L0 → s.length = L0.length
  | [], [], _ => rfl
  | i :: s, o0 :: L0, h => by simp [matK_length s L0 h.2]
  | [], _ :: _, h => h.elim
  | _ :: _, [], h => h.elim
theorem matK_get {B0 : Nat → Prop} {L : List AObj} : ∀ (s : List Nat) (L0 : List AObj) (i k : Nat), matK σ B0 L s L0 → s[i]? = some k → objM σ B0 (lh L0 i) (lh L k) ∧ k < L.length ∧ (lh L0 i).live
  | [], _, i, k, _, hk => by simp at hk
  | i :: s, o0 :: L0, 0, k, h, hk => by
    simp at hk; subst hk
    exact ⟨by simpa [lh] using h.1.1, h.1.2.1, by simpa [lh] using h.1.2.2⟩
  | i :: s, o0 :: L0, j + 1, k, h, hk => by
    have := matK_get s L0 j k h.2 (by simpa using hk)
    simpa [lh] using this
  | _ :: _, [], _, _, h, _ => h.elim

theorem injOk_get : ∀ (s : List Nat) (L0 : List AObj) (i j a b : Nat), s.length = L0.length → injOk s (L0.map kindOf) = true → s[i]? = some a → s[j]? = some b → i < j → ((lh L0 i).isOwn ∧ (lh L0 j).live) ∨ ((lh L0 i).live ∧ (lh L0 j).isOwn) → a ≠ b
  | [], _, i, j, a, b, _, _, h1, _, _, _ => by simp at h1
  | x :: s, o :: L0, i, j + 1, a, b, hl, hi, h1, h2, hij, ho => by
    simp only [List.map_cons, injOk, Bool.and_eq_true, List.all_eq_true] at hi
    cases i with
    | zero =>
      simp at h1
      subst h1
      have hjs : j < s.length := (List.getElem?_eq_some_iff.1 (by simpa using h2)).1
      have hjl : j < L0.length := by simp at hl; omega
      have hz : (List.zip s (L0.map kindOf))[j]? = some (b, kindOf L0[j]) := by
        rw [List.getElem?_zip_eq_some]
        exact ⟨by simpa using h2, by simp [hjl]⟩
      have := hi.1 _ (List.mem_of_getElem? hz)
      intro e
      subst e
      simp only [bne_self_eq_false, Bool.false_or, Bool.and_eq_true, Bool.or_eq_true, bne_iff_ne, ne_eq, beq_iff_eq] at this
      have e2 : lh (o :: L0) (j + 1) = L0[j] := by simp [lh, hjl]
      have e1 : lh (o :: L0) 0 = o := by simp [lh]
      rw [e1, e2] at ho
      have kl : ∀ x : AObj, x.live → kindOf x ≠ 0 := by intro x hx; cases x <;> simp_all [AObj.live, kindOf]
      have ko : ∀ x : AObj, x.isOwn → kindOf x = 1 := by intro x hx; cases x <;> simp_all [AObj.isOwn, kindOf]
      rcases ho with ⟨ho, hl⟩ | ⟨hl, ho⟩
      · have := ko _ ho; have := kl _ hl; omega
      · have := ko _ ho; have := kl _ hl; omega
    | succ i =>
      have e1 : ∀ n, lh (o :: L0) (n + 1) = lh L0 n := fun n => by simp [lh]
      rw [e1, e1] at ho
      exact injOk_get s L0 i j a b (by simpa using hl) hi.2 (by simpa using h1) (by simpa using h2) (by omega) ho
  | _ :: _, [], _, _ + 1, _, _, hl, _, _, _, _, _ => by simp at hl
  | _ :: _, _, _, 0, _, _, _, _, _, _, hij, _ => by omega
end
end Go.Proofs.Ytbfefpkhalegmaa

set_option linter.unusedVariables false
set_option linter.unusedSimpArgs false
namespace Go.Proofs.Ytbfefpkhalegmaa
open Go

theorem renO_own {σ : Nat → Nat} {o : AObj} {cs : List AV} {e : TypeId} (h : renO σ o = .own cs e) : ∃ cs0, o = .own cs0 e ∧ cs = rens σ cs0 := by
  cases o <;> simp [renO] at h
  exact ⟨_, by rw [h.2], h.1.symm⟩
theorem renO_ro {σ : Nat → Nat} {o : AObj} {cs : List AV} {e : TypeId} (h : renO σ o = .ro cs e) : ∃ cs0, o = .ro cs0 e ∧ cs = rens σ cs0 := by
  cases o <;> simp [renO] at h
  exact ⟨_, by rw [h.2], h.1.symm⟩
theorem renO_born {σ : Nat → Nat} {o : AObj} : (renO σ o).born ↔ o.born := by cases o <;> simp [renO, AObj.born]
theorem renO_isOwn {σ : Nat → Nat} {o : AObj} : (renO σ o).isOwn ↔ o.isOwn := by cases o <;> simp [renO, AObj.isOwn]

theorem callK_of {P : Program} {f : FuncId} {args args0 : List AV} {L0 L : List AObj} {R0 : AV → List AObj → Prop} {K : AV → List AObj → Prop} (c : LCall P f args0 L0 R0) (s : List Nat)
    (hargs : args = rens (sig s L.length) args0) (hok : okIns (born (lh L0)) args0) (hmat : matK (sig s L.length) (born (lh L0)) L s L0) (hinj : injOk s (L0.map kindOf) = true)
    (hinh : ∃ r L0', L0.length ≤ L0'.length ∧ R0 r L0')
    (hK : ∀ r L0', L0.length ≤ L0'.length → R0 r L0' → K (ren (sig s L.length) r) (mrg (sig s L.length) s L0 L0' L)) : callK P f args L K := by
  refine ⟨c.1, ?_, ?_⟩
  · obtain ⟨r, L0', h1, h2⟩ := hinh
    exact ⟨_, _, hK r L0' h1 h2⟩
  intro ρ w vargs hsim hvargs
  subst hargs
  have hl := matK_length s L0 hmat
  generalize hσ : sig s L.length = σ at *
  have σlt : ∀ i k, s[i]? = some k → σ i = k := by
    intro i k hk
    have hi := (List.getElem?_eq_some_iff.1 hk).1
    subst hσ; unfold sig; rw [if_pos hi, List.getD, hk]; rfl
  have σget : ∀ i, i < L0.length → ∃ k, s[i]? = some k ∧ σ i = k ∧ k < L.length := by
    intro i hi
    have hs : s[i]? = some (s[i]'(by omega)) := List.getElem?_eq_getElem (by omega)
    exact ⟨_, hs, σlt i _ hs, (matK_get s L0 i _ hmat hs).2.1⟩
  have σge : ∀ j, σ (L0.length + j) = L.length + j := by
    intro j; subst hσ; unfold sig; rw [if_neg (by omega)]; omega
  have lnone : ∀ i, ¬ i < L0.length → lh L0 i = .unborn := fun i hi => by simp [lh, List.getElem?_eq_none (Nat.le_of_not_lt hi)]
  -- the small memory's own reading
  have hm : ∀ j, objM σ (born (lh L0)) (lh L0 j) (lh L (σ j)) := by
    intro j
    by_cases hj : j < L0.length
    · obtain ⟨k, hk, he, _⟩ := σget j hj
      rw [he]; exact (matK_get s L0 j k hmat hk).1
    · rw [lnone j hj]; exact trivial
  have hi : ∀ i j, i ≠ j → (lh L0 i).isOwn → (lh L0 j).live → σ i ≠ σ j := by
    intro i j hij hio hjl
    have hil : i < L0.length := by
      by_cases h : i < L0.length
      · exact h
      · rw [lnone i h] at hio; exact hio.elim
    have hjl' : j < L0.length := by
      by_cases h : j < L0.length
      · exact h
      · rw [lnone j h] at hjl; exact hjl.elim
    obtain ⟨k1, hk1, e1, _⟩ := σget i hil
    obtain ⟨k2, hk2, e2, _⟩ := σget j hjl'
    rw [e1, e2]
    by_cases h : i < j
    · exact injOk_get s L0 i j k1 k2 hl hinj hk1 hk2 h (.inl ⟨hio, hjl⟩)
    · exact (injOk_get s L0 j i k2 k1 hl hinj hk2 hk1 (by omega) (.inr ⟨hjl, hio⟩)).symm
  have hsim0 := hsim.pull hm hi
  refine Calls.mono (c.2 _ w vargs hsim0 (hvargs.pull _ hok)) ?_
  rintro e w' ⟨ρ0', r0, h0', v, rfl, ⟨L0', rfl, hlen, hro, hR⟩, hs', hv, hkept, hold, hmine⟩
  let M := mrg σ s L0 L0' L
  let ρ' : Nat → Pl := fun k => if k < L.length then ρ k else ρ0' (L0.length + (k - L.length))
  have ρlt : ∀ k, k < L.length → ρ' k = ρ k := fun k hk => by simp [ρ', hk]
  have Mnew : ∀ j, lh M (L.length + j) = renO σ (lh L0' (L0.length + j)) := fun j => by rw [← hl]; exact mrg_new s L0 L0' L j hl hlen
  have Mold := fun k hk => mrg_old (σ := σ) s L0 L0' L k hl hlen hinj hk
  have bornL0 : ∀ i, i < L0.length → born (lh L0) i := by
    intro i hi
    obtain ⟨k, hk, _, _⟩ := σget i hi
    exact born_of_live (matK_get s L0 i k hmat hk).2.2
  have ρσ : ∀ i, born (lh L0') i → ρ0' i = ρ' (σ i) := by
    intro i hb
    by_cases hil : i < L0.length
    · obtain ⟨k, hk, he, hkl⟩ := σget i hil
      rw [he, ρlt k hkl, (hold i (bornL0 i hil)).1, he]
    · obtain ⟨j, rfl⟩ : ∃ j, i = L0.length + j := ⟨i - L0.length, by omega⟩
      rw [σge]
      show _ = if _ then _ else _
      rw [if_neg (by omega)]; congr 1; omega
  have bornM : ∀ k, k < L.length → born (lh L) k → born (lh M) k := by
    intro k hk hb
    rcases Mold k hk with ⟨i, hs, ho, hil, hm⟩ | ⟨_, hm⟩
    · unfold born; rw [hm, renO_born]; exact (hold i (bornL0 i hil)).2
    · unfold born; rw [hm]; exact hb
  have bornσ : ∀ i, born (lh L0') i → born (lh M) (σ i) := by
    intro i hb
    by_cases hil : i < L0.length
    · obtain ⟨k, hk, he, hkl⟩ := σget i hil
      rw [he]
      refine bornM k hkl ?_
      have h1 := matK_get s L0 i k hmat hk
      have h2 := h1.1
      have h3 := h1.2.2
      unfold objM at h2
      split at h2
      · exact born_of_live (by rw [h2.1]; trivial)
      · rcases h2.1 with h2 | h2 <;> exact born_of_live (by rw [h2]; trivial)
      · cases hx : lh L0 i <;> simp_all [AObj.live]
    · obtain ⟨j, rfl⟩ : ∃ j, i = L0.length + j := ⟨i - L0.length, by omega⟩
      rw [σge]
      unfold born; rw [Mnew, renO_born]; exact hb
  have push : ∀ (v : AV) (V : Value), VRel (born (lh L0')) ρ0' v V → VRel (born (lh M)) ρ' (ren σ v) V := by
    intro v V hv
    have : VRel (born (lh L0')) (fun i => ρ' (σ i)) v V := hv.mono fun i hb => ⟨hb, (ρσ i hb).symm⟩
    exact this.push v bornσ
  have pushC : ∀ (cs : List AV) (get : Nat → Option Value), CRel (born (lh L0')) ρ0' cs get → CRel (born (lh M)) ρ' (rens σ cs) get := by
    intro cs get hc j u hu
    rw [rens_eq, List.getElem?_map] at hu
    cases hx : cs[j]? with
    | none => simp [hx] at hu
    | some u0 =>
      simp [hx] at hu; subst hu
      obtain ⟨V, hV, hr⟩ := hc j u0 hx
      exact ⟨V, hV, push _ _ hr⟩
  have monoL : ∀ k, born (lh L) k → born (lh M) k ∧ ρ' k = ρ k := by
    intro k hb
    have hk : k < L.length := by
      by_cases h : k < L.length
      · exact h
      · simp [born, lh, List.getElem?_eq_none (Nat.le_of_not_lt h), AObj.born] at hb
    exact ⟨bornM k hk hb, ρlt k hk⟩
  -- an object is either one of the callee's or untouched
  have cls : ∀ k, (∃ i, lh M k = renO σ (lh L0' i) ∧ ρ' k = ρ0' i ∧ σ i = k ∧ ((lh L0 i).isOwn ∨ L0.length ≤ i)) ∨ (k < L.length ∧ lh M k = lh L k ∧ ρ' k = ρ k ∧ ∀ i, (lh L0 i).isOwn → σ i ≠ k) := by
    intro k
    by_cases hk : k < L.length
    · rcases Mold k hk with ⟨i, hs, ho, hil, hm⟩ | ⟨hno, hm⟩
      · left
        refine ⟨i, hm, ?_, σlt i k hs, .inl ho⟩
        rw [ρlt k hk, (hold i (bornL0 i hil)).1, σlt i k hs]
      · right
        refine ⟨hk, hm, ρlt k hk, fun i ho he => ?_⟩
        have hil : i < L0.length := by
          by_cases h : i < L0.length
          · exact h
          · rw [lnone i h] at ho; exact ho.elim
        obtain ⟨k', hk', he', _⟩ := σget i hil
        have : k' = k := by omega
        subst this
        exact hno i hk' ho
    · left
      refine ⟨L0.length + (k - L.length), ?_, by simp [ρ', hk], by rw [σge]; omega, .inr (by omega)⟩
      have := Mnew (k - L.length)
      rwa [show L.length + (k - L.length) = k by omega] at this
  have img : ∀ b, ownImg (fun i => ρ (σ i)) (lh L0) b → ∃ i, (lh L0 i).isOwn ∧ hasBlk ρ (lh L) (σ i) ∧ (ρ (σ i)).blk = b := by
    rintro b ⟨i, ⟨ho, ht⟩, rfl⟩
    refine ⟨i, ho, ⟨?_, ht⟩, rfl⟩
    have := hm i
    cases hx : lh L0 i with
    | own cs t => rw [hx] at this; simp [this.1, AObj.isOwn]
    | _ => simp [hx, AObj.isOwn] at ho
  -- an untouched object's block is none of the callee's
  have apart : ∀ k, (∀ i, (lh L0 i).isOwn → σ i ≠ k) → held ρ (lh L) k → ¬ ownImg (fun i => ρ (σ i)) (lh L0) (ρ k).blk := by
    intro k hno hh ⟨i, hb, he⟩
    obtain ⟨i, ho, hb, he⟩ := img _ ⟨i, hb, he⟩
    exact hsim.inj (σ i) k (hno i ho) hb hh he
  have blkSame : ∀ k, (∀ i, (lh L0 i).isOwn → σ i ≠ k) → held ρ (lh L) k → w'.heap[(ρ k).blk]? = w.heap[(ρ k).blk]? :=
    fun k hno hh => hkept.block _ (hsim.held_lt hh) (apart k hno hh)
  have simM : Sim P ρ' (lh M) w' := by
    refine ⟨fun k cs e hk => ?_, fun k cs e hk => ?_, fun k l hkl hbk hhl => ?_⟩
    · rcases cls k with ⟨i, hm, hρ, hσi, _⟩ | ⟨hkl, hm, hρ, hno⟩
      · rw [hm] at hk
        obtain ⟨cs0, h1, rfl⟩ := renO_own hk
        obtain ⟨a1, a2, a3, a4, a5⟩ := hs'.own i cs0 e h1
        rw [hρ]
        refine ⟨a1, a2, a3, by rw [rens_eq, List.length_map]; exact a4, fun ht => ?_⟩
        obtain ⟨c, b1, b2, b3⟩ := a5 ht
        exact ⟨c, b1, b2, pushC _ _ b3⟩
      · rw [hm] at hk
        obtain ⟨a1, a2, a3, a4, a5⟩ := hsim.own k cs e hk
        rw [hρ]
        refine ⟨a1, a2, a3, a4, fun ht => ?_⟩
        obtain ⟨c, b1, b2, b3⟩ := a5 ht
        exact ⟨c, by rw [blkSame k hno (.inl ⟨by simp [hk, AObj.isOwn], ht⟩)]; exact b1, b2, b3.mono monoL (fun _ _ _ hg => hg)⟩
    · rcases cls k with ⟨i, hm, hρ, hσi, hor⟩ | ⟨hkl, hm, hρ, hno⟩
      · rw [hm] at hk
        obtain ⟨cs0, h1, rfl⟩ := renO_ro hk
        have h2 := hro i cs0 e h1
        rcases hor with ho | hge
        · rw [h2] at ho; exact ho.elim
        · rw [lnone i (by omega)] at h2; simp at h2
      · rw [hm] at hk
        obtain ⟨a1, a2⟩ := hsim.ro k cs e hk
        rw [hρ]
        refine ⟨a1, a2.mono monoL (fun j V hj hg => ?_)⟩
        have := blkSame k hno (.inr ⟨cs, e, hk, fun e' => by subst e'; simp at hj⟩)
        simp only [World.cell?] at hg ⊢
        rw [this]; exact hg
    · have touchedBlk : ∀ i, hasBlk ρ0' (lh L0') i → ∀ m, (∀ i, (lh L0 i).isOwn → σ i ≠ m) → held ρ (lh L) m → (ρ0' i).blk ≠ (ρ m).blk := by
        intro i hb m hno hh
        rcases hmine i hb with himg | hge
        · intro he; rw [he] at himg; exact apart m hno hh himg
        · have := hsim.held_lt hh; omega
      rcases cls k with ⟨i, hm, hρ, hσi, _⟩ | ⟨hkl', hm, hρ, hno⟩ <;> rcases cls l with ⟨j, hm2, hρ2, hσj, hor2⟩ | ⟨hll, hm2, hρ2, hno2⟩
      · rw [hρ, hρ2]
        have hij : i ≠ j := fun e => hkl (by rw [← hσi, ← hσj, e])
        refine hs'.inj i j hij ?_ ?_
        · unfold hasBlk at hbk ⊢; rw [hm, renO_isOwn, hρ] at hbk; exact hbk
        · rcases hhl with hhl | ⟨cs, t, hc, hne⟩
          · left; unfold hasBlk at hhl ⊢; rw [hm2, renO_isOwn, hρ2] at hhl; exact hhl
          · rw [hm2] at hc
            obtain ⟨cs0, h1, rfl⟩ := renO_ro hc
            exact .inr ⟨cs0, t, h1, fun e => by subst e; exact hne rfl⟩
      · rw [hρ, hρ2]
        refine touchedBlk i ?_ l hno2 ?_
        · unfold hasBlk at hbk ⊢; rw [hm, renO_isOwn, hρ] at hbk; exact hbk
        · unfold held hasBlk at hhl ⊢; rw [hm2, hρ2] at hhl; exact hhl
      · rw [hρ, hρ2]
        refine (touchedBlk j ?_ k hno ?_).symm
        · rcases hhl with hhl | ⟨cs, t, hc, hne⟩
          · unfold hasBlk at hhl ⊢; rw [hm2, renO_isOwn, hρ2] at hhl; exact hhl
          · rw [hm2] at hc
            obtain ⟨cs0, h1, rfl⟩ := renO_ro hc
            have h2 := hro j cs0 t h1
            rcases hor2 with ho | hge
            · rw [h2] at ho; exact ho.elim
            · rw [lnone j (by omega)] at h2; simp at h2
        · left; unfold hasBlk at hbk ⊢; rw [hm, hρ] at hbk; exact hbk
      · rw [hρ, hρ2]
        refine hsim.inj k l hkl ?_ ?_
        · unfold hasBlk at hbk ⊢; rw [hm, hρ] at hbk; exact hbk
        · unfold held hasBlk at hhl ⊢; rw [hm2, hρ2] at hhl; exact hhl
  refine ⟨ρ', ren σ r0, lh M, v, rfl, ⟨M, rfl, hK r0 L0' hlen hR⟩, simM, push _ _ hv, ?_, fun i hb => ⟨(monoL i hb).2, (monoL i hb).1⟩, ?_⟩
  · refine ⟨hkept.os, hkept.tape, hkept.output, hkept.size, fun k hk hn => hkept.block k hk fun ho => hn ?_⟩
    obtain ⟨i, _, hb, he⟩ := img k ho
    exact ⟨σ i, hb, he⟩
  · intro k hb
    rcases cls k with ⟨i, hm, hρ, hσi, _⟩ | ⟨hkl, hm, hρ, hno⟩
    · rw [hρ]
      have hb0 : hasBlk ρ0' (lh L0') i := by unfold hasBlk at hb ⊢; rw [hm, renO_isOwn, hρ] at hb; exact hb
      rcases hmine i hb0 with himg | hge
      · obtain ⟨i, _, hb, he⟩ := img _ himg
        exact .inl ⟨σ i, hb, he⟩
      · exact .inr hge
    · rw [hρ]
      exact .inl ⟨k, by unfold hasBlk at hb ⊢; rw [hm, hρ] at hb; exact hb, rfl⟩
end Go.Proofs.Ytbfefpkhalegmaa

set_option linter.unusedVariables false
set_option linter.unusedSimpArgs false
namespace Go.Proofs.Ytbfefpkhalegmaa
open Go

/-! ### The end of a function -/
def tupOf : List AV → AV | [v] => v | vs => .tup vs
theorem tupOf_one (v : AV) : tupOf [v] = v := nrf rfl
theorem tupOf_nil : tupOf [] = .tup [] := nrf rfl
theorem tupOf_two (v u : AV) (vs : List AV) : tupOf (v :: u :: vs) = .tup (v :: u :: vs) := nrf rfl

def resK (T : TyTab) (fr : List AV) (L : List AObj) : List ResultVar → List AV → (AV → List AObj → Prop) → Prop
  | [], acc, X => X (tupOf acc) L
  | .tmp t :: rs, acc, X => resK T fr L rs (acc ++ [fr.getD t .junk]) X
  | .cell ad t :: rs, acc, X => optK (T t) fun ti => ptrK (fr.getD ad .junk) fun i off => cellsK (lh L i) fun cs => loadK cs off ti.k.isAgg ti.size fun v => resK T fr L rs (acc ++ [v]) X

def finK (T : TyTab) (rs : List ResultVar) (X : AV → List AObj → Prop) : Post := fun e fr L =>
  match e with
  | .normal => resK T fr L rs [] X
  | .ret => resK T fr L rs [] X
  | _ => False
theorem finK_normal (T : TyTab) (rs : List ResultVar) (X : AV → List AObj → Prop) (fr : List AV) (L : List AObj) : finK T rs X .normal fr L = resK T fr L rs [] X := nrf rfl
theorem finK_ret (T : TyTab) (rs : List ResultVar) (X : AV → List AObj → Prop) (fr : List AV) (L : List AObj) : finK T rs X .ret fr L = resK T fr L rs [] X := nrf rfl

def sg (n0 : Nat) (π : List Nat) (i : Nat) : Nat := if i < n0 then i else π.getD (i - n0) 0
def roSame (o o0 : AObj) : Prop := match o with | .ro cs e => o0 = .ro cs e | _ => True
def exK (σ : Nat → Nat) (B0 : Nat → Prop) (L : List AObj) : List AObj → Nat → List AObj → Prop
  | o0 :: L0, j, o :: L1 => (objM σ B0 o (lh L (σ j)) ∧ o.born ∧ roSame o o0) ∧ exK σ B0 L L0 (j + 1) L1
  | [], j, o :: L1 => (objM σ B0 o (lh L (σ j)) ∧ o.born ∧ kindOf o ≠ 2) ∧ exK σ B0 L [] (j + 1) L1
  | [], _, [] => True
  | _ :: _, _, [] => False
/-- The end of a function: what it made and hands back is told behind what it was handed. -/
def exitP (L0 : List AObj) (R : AV → List AObj → Prop) (r : AV) (L : List AObj) (_ : Bx L0 := .mk) (_ : Bx R := .mk) : Prop :=
  ∃ π r0 L1, R r0 L1 ∧ r = ren (sg L0.length π) r0 ∧ okIn (born (lh L1)) r0 ∧ L1.length = L0.length + π.length ∧ exK (sg L0.length π) (born (lh L1)) L L0 0 L1 ∧
    injOk (List.range L0.length ++ π) (L1.map kindOf) = true

section
variable {P : Program} {T : TyTab} {C : Ctx} {ρ : Nat → Pl} {fr : List AV} {a : Act} {w : World} {L : List AObj}

theorem getD_rel {B : Nat → Prop} (h : VsRel B ρ fr a.tmps.toList) (t : Nat) : VRel B ρ (fr.getD t .junk) (a.tmps.getD t undef) := ev_rel (fr := fr) (a := a) h (.tmp t)

def resOne (tmps : Array Value) : ResultVar → Sem Value
  | .tmp t => pure (tmps.getD t undef)
  | .cell ad t => do loadVar t (← asAddr (tmps.getD ad undef))
theorem results_eq (fn : Func) (tmps : Array Value) : results fn tmps = (do let vs ← fn.results.mapM (resOne tmps); pure (if h : vs.size = 1 then vs[0] else .tuple vs)) := rfl
theorem asAddr_ptr (ad : Addr) : (asAddr (.pointer (some ad))).run P w = .ok ad w := rfl
theorem resK_sound (hT : TOk P T) (s : St P C ρ (lh L) fr a w) (X : AV → List AObj → Prop) : ∀ (rs : List ResultVar) (acc : List AV) (Acc : List Value), VsRel (born (lh L)) ρ acc Acc → resK T fr L rs acc X →
    ∃ vs Vs, (rs.mapM (m := Sem) (resOne a.tmps)).run P w = .ok Vs w ∧ VsRel (born (lh L)) ρ (acc ++ vs) (Acc ++ Vs) ∧ X (tupOf (acc ++ vs)) L
  | [], acc, Acc, hr, hk => ⟨[], [], by simp, by simpa using hr, by simpa [resK] using hk⟩
  | .tmp t :: rs, acc, Acc, hr, hk => by
    simp only [resK] at hk
    have hv := getD_rel (a := a) s.fr t
    obtain ⟨vs, Vs, h1, h2, h3⟩ := resK_sound hT s X rs _ (Acc ++ [a.tmps.getD t undef]) (hr.append (.cons _ _ _ _ hv .nil)) hk
    refine ⟨fr.getD t .junk :: vs, a.tmps.getD t undef :: Vs, ?_, by simpa using h2, by simpa using h3⟩
    rw [List.mapM_cons]
    simp only [resOne, Sem.run_bind, Sem.run_pure, Result.andThen_ok, h1]
  | .cell ad t :: rs, acc, Acc, hr, hk => by
    simp only [resK] at hk
    obtain ⟨ti, ht, k1⟩ := optK_ex hk
    obtain ⟨i, off, hp, k2⟩ := ptrK_ex k1
    obtain ⟨hl, k3⟩ := cellsK_ex k2
    have hv := getD_rel (a := a) s.fr ad
    rw [hp] at hv
    obtain ⟨v, V, hrun, hrv, k4⟩ := run_loadVar T hT s.sim ht hl k3
    obtain ⟨vs, Vs, h1, h2, h3⟩ := resK_sound hT s X rs _ (Acc ++ [V]) (hr.append (.cons _ _ _ _ hrv .nil)) k4
    refine ⟨v :: vs, V :: Vs, ?_, by simpa using h2, by simpa using h3⟩
    rw [List.mapM_cons]
    simp only [resOne, Sem.run_bind, Sem.run_pure, Result.andThen_ok, hv.ptr_inv.2, asAddr_ptr, hrun, h1]

theorem run_results (hT : TOk P T) (s : St P C ρ (lh L) fr a w) (fn : Func) (X : AV → List AObj → Prop) (hk : resK T fr L fn.results.toList [] X) :
    ∃ r V, (results fn a.tmps).run P w = .ok V w ∧ VRel (born (lh L)) ρ r V ∧ X r L := by
  obtain ⟨vs, Vs, h1, h2, h3⟩ := resK_sound hT s X fn.results.toList [] [] .nil hk
  simp only [List.nil_append] at h2 h3
  have hm : (fn.results.mapM (m := Sem) (resOne a.tmps)).run P w = .ok Vs.toArray w := by
    rw [Array.mapM_eq_mapM_toList]
    simp only [Sem.run_map]
    rw [h1]
    rfl
  refine ⟨tupOf vs, if h : Vs.toArray.size = 1 then Vs.toArray[0] else .tuple Vs.toArray, ?_, ?_, h3⟩
  · rw [results_eq, Sem.run_bind, hm]
    simp only [Result.andThen_ok, Sem.run_pure]
  · match vs, Vs, h2 with
    | [], [], h => exact .tup _ _ h
    | [v], [V], h => cases h with | cons _ _ _ _ h _ => simpa [tupOf] using h
    | v :: u :: vs, V :: U :: Vs, h => simp only [tupOf]; rw [dif_neg (by simp)]; exact .tup _ _ h
    | [], _ :: _, h => cases h
    | [_], [], h => cases h
    | [_], _ :: _ :: _, h => cases h with | cons _ _ _ _ _ h => cases h
    | _ :: _ :: _, [], h => cases h
    | _ :: _ :: _, [_], h => cases h with | cons _ _ _ _ _ h => cases h

theorem exK_get {σ : Nat → Nat} {B0 : Nat → Prop} : ∀ (L0 : List AObj) (j : Nat) (L1 : List AObj) (i : Nat), exK σ B0 L L0 j L1 → i < L1.length →
    objM σ B0 (lh L1 i) (lh L (σ (j + i))) ∧ (lh L1 i).born ∧ (∀ cs e, lh L1 i = .ro cs e → lh L0 i = .ro cs e) ∧ L0.length ≤ L1.length
  | o0 :: L0, j, o :: L1, 0, h, hi => by
    have hlen : L0.length ≤ L1.length := by
      cases L1 with
      | nil => cases L0 with | nil => simp | cons _ _ => exact h.2.elim
      | cons o1 L1' => exact (exK_get L0 (j + 1) (o1 :: L1') 0 h.2 (by simp)).2.2.2
    refine ⟨by simpa [lh] using h.1.1, by simpa [lh] using h.1.2.1, fun cs e he => ?_, by simpa using hlen⟩
    have h3 := h.1.2.2
    simp [lh] at he
    rw [he] at h3
    simpa [lh, roSame] using h3
  | o0 :: L0, j, o :: L1, i + 1, h, hi => by
    have := exK_get L0 (j + 1) L1 i h.2 (by simpa using hi)
    rw [show j + 1 + i = j + (i + 1) by omega] at this
    exact ⟨by simpa [lh] using this.1, by simpa [lh] using this.2.1, by simpa [lh] using this.2.2.1, by simpa using this.2.2.2⟩
  | [], j, o :: L1, 0, h, hi => by
    refine ⟨by simpa [lh] using h.1.1, by simpa [lh] using h.1.2.1, fun cs e he => ?_, by simp⟩
    have h3 := h.1.2.2
    simp [lh] at he
    rw [he] at h3
    simp [kindOf] at h3
  | [], j, o :: L1, i + 1, h, hi => by
    have := exK_get [] (j + 1) L1 i h.2 (by simpa using hi)
    rw [show j + 1 + i = j + (i + 1) by omega] at this
    exact ⟨by simpa [lh] using this.1, by simpa [lh] using this.2.1, by simpa [lh] using this.2.2.1, by simp⟩
  | _ :: _, _, [], _, h, _ => h.elim
  | [], _, [], _, _, hi => by simp at hi
theorem exK_len {σ : Nat → Nat} {B0 : Nat → Prop} : ∀ (L0 : List AObj) (j : Nat) (L1 : List AObj), exK σ B0 L L0 j L1 → L0.length ≤ L1.length
  | [], _, _, _ => by simp
  | _ :: L0, j, _ :: L1, h => by simpa using exK_len L0 (j + 1) L1 h.2
  | _ :: _, _, [], h => h.elim

/-- A contract from the conditions of the body. -/
theorem lcall_of_vc (hT : TOk P T) {f : FuncId} {fn : Func} {args : List AV} {L0 : List AObj} {R : AV → List AObj → Prop} (hf : P.funcs[f]? = some fn) {c : Code} (hb : fn.body = some c) (hn : (fn.name == "runtime.NumGoroutine") = false)
    {rs : List ResultVar} (hrs : fn.results = rs.toArray) {nt : Nat} (hnt : fn.ntmps = nt)
    (hvc : ∀ C : Ctx, (∀ i, C.D i → i < L0.length) → vc P T C c (finK T rs (fun r L => exitP L0 R r L)) (args ++ List.replicate (nt - args.length) .junk) L0) : LCall P f args L0 R := by
  have hrs' : fn.results.toList = rs := by rw [hrs]
  subst hrs'; subst hnt
  clear hrs
  refine ⟨⟨fn, hf, hn, by simp [hb]⟩, ?_⟩
  intro ρ w vargs hsim hargs
  refine calls_of_wp hf hb ?_
  let C : Ctx := ⟨w, ownImg ρ (lh L0), fun i => i < L0.length ∧ born (lh L0) i, ρ⟩
  have hlen := hargs.length
  have hst : St P C ρ (lh L0) (args ++ List.replicate (fn.ntmps - args.length) .junk) { tmps := vargs.toArray ++ Array.replicate (fn.ntmps - vargs.toArray.size) undef, defers := [] } w := by
    refine ⟨hsim, ?_, rfl, Kept.refl _ _, fun i hi => .inl ⟨i, hi, rfl⟩, fun i hi => ⟨rfl, hi.2⟩⟩
    simp only [Array.toList_append, Array.toList_replicate]
    refine hargs.append ?_
    have := VsRel.junk (B := born (lh L0)) (ρ := ρ) (List.replicate (fn.ntmps - vargs.toArray.size) undef)
    simpa [hlen] using this
  refine wp_mono (vc_sound hT c _ ρ _ L0 _ w hst (hvc C (fun i hi => hi.1))) ?_
  rintro e a' w' ⟨ρ', fr', L', s', hq⟩
  have fin : resK T fr' L' fn.results.toList [] (fun r L => exitP L0 R r L) → a'.defers = [] ∧ ∃ v, (results fn a'.tmps).run P w' = .ok v w' ∧
      ∃ ρ' r h' v', Ending.returned v = .returned v' ∧ (∃ L', h' = lh L' ∧ L0.length ≤ L'.length ∧ (∀ i cs e, lh L' i = .ro cs e → lh L0 i = .ro cs e) ∧ R r L') ∧ Sim P ρ' h' w' ∧ VRel (born h') ρ' r v' ∧
        Kept (ownImg ρ (lh L0)) w w' ∧ (∀ i, born (lh L0) i → ρ' i = ρ i ∧ born h' i) ∧ (∀ i, hasBlk ρ' h' i → ownImg ρ (lh L0) (ρ' i).blk ∨ w.heap.size ≤ (ρ' i).blk) := by
    intro hk
    obtain ⟨r, V, hrun, hr, π, r0, L1, hR, hren, hok, hl1, hex, hinj⟩ := run_results hT s' fn _ hk
    refine ⟨s'.defers, V, hrun, ?_⟩
    let σ := sg L0.length π
    have hm : ∀ j, objM σ (born (lh L1)) (lh L1 j) (lh L' (σ j)) := by
      intro j
      by_cases hj : j < L1.length
      · have := (exK_get L0 0 L1 j hex hj).1; rwa [Nat.zero_add] at this
      · have : lh L1 j = .unborn := by simp [lh, List.getElem?_eq_none (Nat.le_of_not_lt hj)]
        rw [this]; exact trivial
    have σget : ∀ j, j < L1.length → (List.range L0.length ++ π)[j]? = some (σ j) := by
      intro j hj
      show _ = some (sg L0.length π j)
      unfold sg
      by_cases h : j < L0.length
      · rw [if_pos h, List.getElem?_append_left (by simpa using h)]; simp [h]
      · rw [if_neg h, List.getElem?_append_right (by simpa using h)]
        simp only [List.length_range, List.getD]
        have : j - L0.length < π.length := by omega
        rw [List.getElem?_eq_getElem this]; rfl
    have hi : ∀ i j, i ≠ j → (lh L1 i).isOwn → (lh L1 j).live → σ i ≠ σ j := by
      intro i j hij hio hjl
      have lt : ∀ j, (lh L1 j).live → j < L1.length := by
        intro j hj
        by_cases h : j < L1.length
        · exact h
        · have : lh L1 j = .unborn := by simp [lh, List.getElem?_eq_none (Nat.le_of_not_lt h)]
          rw [this] at hj; exact hj.elim
      have h1 := lt i (live_of_own hio)
      have h2 := lt j hjl
      by_cases h : i < j
      · exact injOk_get _ L1 i j _ _ (by simp [hl1]) hinj (σget i h1) (σget j h2) h (.inl ⟨hio, hjl⟩)
      · exact (injOk_get _ L1 j i _ _ (by simp [hl1]) hinj (σget j h2) (σget i h1) (by omega) (.inr ⟨hjl, hio⟩)).symm
    have hs1 := s'.sim.pull hm hi
    have σid : ∀ i, i < L0.length → σ i = i := fun i hi => by show sg L0.length π i = i; simp [sg, hi]
    refine ⟨fun i => ρ' (σ i), r0, lh L1, V, rfl, ⟨L1, rfl, exK_len _ _ _ hex, fun i cs e he => ?_, hR⟩, hs1, ?_, ?_, ?_, ?_⟩
    · have : i < L1.length := by
        by_cases h : i < L1.length
        · exact h
        · have : lh L1 i = .unborn := by simp [lh, List.getElem?_eq_none (Nat.le_of_not_lt h)]
          rw [this] at he; simp at he
      exact (exK_get L0 0 L1 i hex this).2.2.1 cs e he
    · rw [hren] at hr; exact hr.pull _ hok
    · exact s'.kept
    · intro i hb
      have hil : i < L0.length := by
        by_cases h : i < L0.length
        · exact h
        · simp [born, lh, List.getElem?_eq_none (Nat.le_of_not_lt h), AObj.born] at hb
      refine ⟨?_, (exK_get L0 0 L1 i hex (by omega)).2.1⟩
      show ρ' (σ i) = ρ i
      rw [σid i hil]
      exact (s'.old i ⟨hil, hb⟩).1
    · intro i hb
      refine s'.mine (σ i) ⟨?_, hb.2⟩
      have := hm i
      have ho := hb.1
      cases hx : lh L1 i with
      | own cs t => rw [hx] at this; simp [this.1, AObj.isOwn]
      | _ => simp [hx, AObj.isOwn] at ho
  cases e <;> first | exact hq.elim | skip
  · obtain ⟨h1, v, h2, ρ', r, h', v', h3, h4⟩ := fin hq
    exact ⟨h1, v, h2, ρ', r, h', v', h3, h4⟩
  · obtain ⟨h1, v, h2, ρ', r, h', v', h3, h4⟩ := fin hq
    exact ⟨h1, v, h2, ρ', r, h', v', h3, h4⟩
end
end Go.Proofs.Ytbfefpkhalegmaa
