/- Loops. -/
import Derived.Test.YtbfefpkhalegmaaA1

set_option linter.unusedVariables false
set_option linter.unusedSimpArgs false
namespace Go.Proofs.Ytbfefpkhalegmaa
open Go

/-- v is told as well as v', or not told there. -/
def leV (v v' : AV) : Prop := v' = .junk ∨ v = v'
theorem leV_junk (v : AV) : leV v .junk = True := by simp [leV]
theorem leV_int (k : IntKind) (a b : Int) : leV (.int k a) (.int k b) = (a = b) := by simp [leV]
theorem leV_bool (a b : Bool) : leV (.bool a) (.bool b) = (a = b) := by simp [leV]
theorem leV_slice (i o l i' o' l' : Nat) : leV (.slice i o l) (.slice i' o' l') = (i = i' ∧ o = o' ∧ l = l') := by simp [leV]
theorem leV_ptr (i o i' o' : Nat) : leV (.ptr i o) (.ptr i' o') = (i = i' ∧ o = o') := by simp [leV]
theorem leV_self (v : AV) : leV v v = True := by simp [leV]
def leF : List AV → List AV → Prop
  | [], [] => True
  | v :: vs, v' :: vs' => leV v v' ∧ leF vs vs'
  | _, _ => False
def keepS : List Nat → Nat → List AV → List AV
  | k :: ks, i, v :: fr => if i = k then v :: keepS ks (i + 1) fr else .junk :: keepS (k :: ks) (i + 1) fr
  | [], _, fr => fr.map fun _ => .junk
  | _ :: _, _, [] => []
def setS (fr : List AV) : List (Nat × AV) → List AV
  | [] => fr
  | (i, v) :: l => setS (fr.set i v) l
/-- Where a loop comes to its head: the frame's slots that are told, and the memory. -/
def leS (n0 : Nat) (fr : List AV) (L : List AObj) (fr' : List AV) (L' : List AObj) : Prop :=
  leF fr fr' ∧ (∃ G, L = L' ++ G) ∧ n0 ≤ L'.length ∧ okIns (fun i => i < L'.length) fr' ∧ (∀ o ∈ L', o.born ∧ okIns (fun i => i < L'.length) o.cells)

section
variable {P : Program} {T : TyTab} {C : Ctx} {ρ : Nat → Pl} {fr fr' : List AV} {a : Act} {w : World} {L L' : List AObj}

theorem VsRel.le {B : Nat → Prop} : ∀ (fr fr' : List AV) (Vs : List Value), VsRel B ρ fr Vs → leF fr fr' → VsRel B ρ fr' Vs
  | [], [], _, h, _ => h
  | v :: vs, v' :: vs', _, h, hl => by
    cases h with
    | cons _ V _ Vs h hs =>
      refine .cons _ _ _ _ ?_ (VsRel.le vs vs' Vs hs hl.2)
      rcases hl.1 with rfl | rfl
      · exact .junk V
      · exact h
  | [], _ :: _, _, _, hl => hl.elim
  | _ :: _, [], _, _, hl => hl.elim

mutual
theorem ren_id (v : AV) : ren (fun i => i) v = v := by
  cases v with
  | fn f caps => simp only [ren]; rw [rens_id caps]
  | agg cs => simp only [ren]; rw [rens_id cs]
  | tup cs => simp only [ren]; rw [rens_id cs]
  | _ => rfl
theorem rens_id (vs : List AV) : rens (fun i => i) vs = vs := by
  cases vs with
  | nil => rfl
  | cons v vs => rw [rens, ren_id v, rens_id vs]
end
mutual
theorem okIn.mono {B B' : Nat → Prop} (hB : ∀ i, B i → B' i) (v : AV) (h : okIn B v) : okIn B' v := by
  cases v with
  | ptr i o => exact hB i h
  | slice i o l => exact hB i h
  | fn f caps => exact okIns.mono hB caps h
  | agg cs => exact okIns.mono hB cs h
  | tup cs => exact okIns.mono hB cs h
  | _ => trivial
theorem okIns.mono {B B' : Nat → Prop} (hB : ∀ i, B i → B' i) (vs : List AV) (h : okIns B vs) : okIns B' vs := by
  cases vs with
  | nil => trivial
  | cons v vs => exact ⟨okIn.mono hB v h.1, okIns.mono hB vs h.2⟩
end

theorem St.le {n0 : Nat} (s : St P C ρ (lh L) fr a w) (hD : ∀ i, C.D i → i < n0) (h : leS n0 fr L fr' L') : St P C ρ (lh L') fr' a w := by
  obtain ⟨hf, ⟨G, rfl⟩, hn, hok, hcells⟩ := h
  have hlt : ∀ i, i < L'.length → lh (L' ++ G) i = lh L' i := fun i hi => by simp [lh, List.getElem?_append_left hi]
  have hge : ∀ i, ¬ i < L'.length → lh L' i = .unborn := fun i hi => by simp [lh, List.getElem?_eq_none (Nat.le_of_not_lt hi)]
  have hb : ∀ i, i < L'.length → born (lh L') i := by
    intro i hi
    have : lh L' i ∈ L' := by simp [lh, List.getD, List.getElem?_eq_getElem hi]
    exact (hcells _ this).1
  have hmono : ∀ vs, okIns (fun i => i < L'.length) vs → okIns (born (lh L')) vs := fun vs h => okIns.mono hb vs h
  have hsim : Sim P ρ (lh L') w := by
    have := s.sim.pull (h0 := lh L') (σ := fun i => i) (fun j => ?_) (fun i j hij _ _ => hij)
    · exact this
    · by_cases hj : j < L'.length
      · have hmem : lh L' j ∈ L' := by simp [lh, List.getD, List.getElem?_eq_getElem hj]
        rw [hlt j hj]
        have hc := hmono _ (hcells _ hmem).2
        cases hx : lh L' j with
        | own cs e => rw [hx] at hc; exact ⟨by rw [rens_id], hc⟩
        | ro cs e => rw [hx] at hc; exact ⟨.inl (by rw [rens_id]), hc⟩
        | _ => trivial
      · rw [hge j hj]; trivial
  refine ⟨hsim, ?_, s.defers, s.kept, fun i hi => ?_, fun i hi => ⟨(s.old i hi).1, hb i (Nat.lt_of_lt_of_le (hD i hi) hn)⟩⟩
  · have h1 : VsRel (born (lh (L' ++ G))) ρ (rens (fun i => i) fr') a.tmps.toList := by rw [rens_id]; exact s.fr.le _ _ _ hf
    exact h1.pull (σ := fun i => i) fr' (hmono _ hok)
  · have : i < L'.length := by
      by_cases h : i < L'.length
      · exact h
      · have := hi.1; rw [hge i h] at this; exact this.elim
    refine s.mine i ?_
    unfold hasBlk at hi ⊢
    rwa [hlt i this]

/-- A loop, by what holds at its head: a family of states. -/
theorem loopK_of (hT : TOk P T) {n0 : Nat} (hD : ∀ i, C.D i → i < n0) {c : Code} {Q : Post} {α : Type} (inv : α → Prop) (μ : α → Nat) (stF : α → List AV) (stL : α → List AObj) (s0 : α)
    (h0 : inv s0) (hs : leS n0 fr L (stF s0) (stL s0))
    (step : ∀ s, inv s → vc P T C c (thenK (fun fr L => ∃ s', inv s' ∧ μ s' < μ s ∧ leS n0 fr L (stF s') (stL s')) Q) (stF s) (stL s)) : loopK P C c Q fr L := by
  intro ρ a w hst b k cs
  have key : ∀ n s ρ a w, μ s = n → inv s → St P C ρ (lh (stL s)) (stF s) a w →
      ∃ e a' w', lift P C Q e a' w' ∧ Arrives P (lone (b.at a (.code c :: .inLoop c :: k)) cs w) b k cs e a' w' := by
    intro n
    induction n using Nat.strongRecOn with
    | _ n ih =>
      intro s ρ a w hn hI hs
      obtain ⟨e, a₁, w₁, ⟨ρ1, fr1, L1, s1, hq⟩, harr⟩ := vc_sound hT c _ ρ _ _ a w hs (step s hI) b (.inLoop c :: k) cs
      cases e with
      | normal =>
        obtain ⟨s', hI', hlt, hle⟩ := hq
        obtain ⟨e₂, a₂, w₂, hq₂, harr₂⟩ := ih (μ s') (hn ▸ hlt) s' ρ1 a₁ w₁ rfl hI' (s1.le hD hle)
        exact ⟨e₂, a₂, w₂, hq₂, .of_steps (Steps.trans harr (.one step_inLoop)) harr₂⟩
      | exit id => exact ⟨_, a₁, w₁, ⟨ρ1, fr1, L1, s1, hq⟩, .pass (x := .inLoop c) rfl (fun _ _ => .inl (by simp)) harr⟩
      | goto l => exact ⟨_, a₁, w₁, ⟨ρ1, fr1, L1, s1, hq⟩, .pass (x := .inLoop c) rfl (fun _ _ => .inl (by simp)) harr⟩
      | ret => exact ⟨_, a₁, w₁, ⟨ρ1, fr1, L1, s1, hq⟩, .pass (x := .inLoop c) rfl (fun _ _ => .inl (by simp)) harr⟩
      | panic ch => exact ⟨_, a₁, w₁, ⟨ρ1, fr1, L1, s1, hq⟩, .pass (x := .inLoop c) rfl (fun _ _ => .inl (by simp)) harr⟩
      | outgrown => exact ⟨_, a₁, w₁, ⟨ρ1, fr1, L1, s1, hq⟩, .pass (x := .inLoop c) rfl (fun _ _ => .inl (by simp)) harr⟩
  obtain ⟨e, a', w', hq, harr⟩ := key _ s0 ρ a w rfl h0 (hst.le hD hs)
  exact ⟨e, a', w', hq, .of_steps (.one step_loop) harr⟩
end
end Go.Proofs.Ytbfefpkhalegmaa

set_option linter.unusedVariables false
set_option linter.unusedSimpArgs false
namespace Go.Proofs.Ytbfefpkhalegmaa
open Go

def nf {α : Type} (x : α) : α := x
theorem nf_eq {α : Type} (x : α) : nf x = x := nrf rfl
def nfp (x : Prop) : Prop := x
theorem nfp_eq (x : Prop) : nfp x = x := nrf rfl
def chkN (p q : Prop) (_ : Bx q := .mk) : Prop := chk p q
theorem chkN_eq (p q : Prop) : chkN p q = chk p q := nrf rfl
def strK (v : AV) (K : AV → Prop) : Prop := match v with | .str s => K (.int .i64 s.size) | _ => False
def lenK (k : TK) (v : AV) (K : AV → Prop) : Prop := match k with
  | .slice _ => slK v (fun _ _ len => K (.int .i64 len)) (K (.int .i64 0)) (K (.int .i64 0))
  | .arr n _ => K (.int .i64 n)
  | .str => strK v K
  | _ => False
def fillS (pl : List (Nat × Nat)) (cs : List AV) : List (Nat × AV) → Option (List AV)
  | [] => some cs
  | (i, v) :: rest => match pl[i]? with
    | none => none
    | some (off, size) => if v.solid = true ∧ (cellsOf v).length = size ∧ off + size ≤ cs.length then fillS pl (setCells cs off (cellsOf v)) rest else none
def andI (w : Nat) (a b : Int) : Int := (BitVec.ofInt w a &&& BitVec.ofInt w b).toNat
def orI (w : Nat) (a b : Int) : Int := (BitVec.ofInt w a ||| BitVec.ofInt w b).toNat
def xorI (w : Nat) (a b : Int) : Int := (BitVec.ofInt w a ^^^ BitVec.ofInt w b).toNat
def fillE (sz : Nat) (cs : List AV) (parts : List (Nat × AV)) : Option (List AV) := fillA (fun i => some (i * sz, sz)) cs parts
section
variable (P : Program) (T : TyTab) (C : Ctx) (fr : List AV) (L : List AObj) (K : AV → List AObj → Prop) (Q : Post) (all rest : List Oper) (N : List AV → List AObj → Prop)

theorem ibin_add (k : IntKind) (a b : Int) (K : AV → Prop) : ibin .add k a b K = K (.int k (k.wrap (a + b))) := nrf rfl
theorem ibin_sub (k : IntKind) (a b : Int) (K : AV → Prop) : ibin .sub k a b K = K (.int k (k.wrap (a - b))) := nrf rfl
theorem ibin_mul (k : IntKind) (a b : Int) (K : AV → Prop) : ibin .mul k a b K = K (.int k (k.wrap (a * b))) := nrf rfl
theorem ibin_quo (k : IntKind) (a b : Int) (K : AV → Prop) : ibin .quo k a b K = chkN (b ≠ 0) (K (.int k (k.wrap (a.tdiv b)))) := nrf rfl
theorem ibin_rem (k : IntKind) (a b : Int) (K : AV → Prop) : ibin .rem k a b K = chkN (b ≠ 0) (K (.int k (a.tmod b))) := nrf rfl
theorem ibin_and (k : IntKind) (a b : Int) (K : AV → Prop) : ibin .and k a b K = K (.int k (k.wrap (andI k.bits a b))) := nrf rfl
theorem ibin_or (k : IntKind) (a b : Int) (K : AV → Prop) : ibin .or k a b K = K (.int k (k.wrap (orI k.bits a b))) := nrf rfl
theorem ibin_xor (k : IntKind) (a b : Int) (K : AV → Prop) : ibin .xor k a b K = K (.int k (k.wrap (xorI k.bits a b))) := nrf rfl
theorem ibin_shl (k : IntKind) (a b : Int) (K : AV → Prop) : ibin .shl k a b K = chkN (0 ≤ b) (K (.int k (k.wrap (a * 2 ^ (min b.toNat k.bits))))) := nrf rfl
theorem ibin_shr (k : IntKind) (a b : Int) (K : AV → Prop) : ibin .shr k a b K = chkN (0 ≤ b) (K (.int k (a.fdiv (2 ^ (min b.toNat k.bits))))) := nrf rfl
theorem ibin_eql (k : IntKind) (a b : Int) (K : AV → Prop) : ibin .eql k a b K = K (.bool (a == b)) := nrf rfl
theorem ibin_neq (k : IntKind) (a b : Int) (K : AV → Prop) : ibin .neq k a b K = K (.bool (a != b)) := nrf rfl
theorem ibin_lss (k : IntKind) (a b : Int) (K : AV → Prop) : ibin .lss k a b K = K (.bool (decide (a < b))) := nrf rfl
theorem ibin_leq (k : IntKind) (a b : Int) (K : AV → Prop) : ibin .leq k a b K = K (.bool (decide (a ≤ b))) := nrf rfl
theorem ibin_gtr (k : IntKind) (a b : Int) (K : AV → Prop) : ibin .gtr k a b K = K (.bool (decide (b < a))) := nrf rfl
theorem ibin_geq (k : IntKind) (a b : Int) (K : AV → Prop) : ibin .geq k a b K = K (.bool (decide (b ≤ a))) := nrf rfl
theorem sbin_eql (a b : ByteArray) (K : AV → Prop) : sbin .eql a b K = K (.bool (a.toList == b.toList)) := nrf rfl
theorem sbin_neq (a b : ByteArray) (K : AV → Prop) : sbin .neq a b K = K (.bool (!(a.toList == b.toList))) := nrf rfl
theorem sbin_lss (a b : ByteArray) (K : AV → Prop) : sbin .lss a b K = K (.bool (Op.bytesLess a.toList b.toList)) := nrf rfl
theorem sbin_geq (a b : ByteArray) (K : AV → Prop) : sbin .geq a b K = K (.bool (!Op.bytesLess a.toList b.toList)) := nrf rfl
theorem condK_not (b : Bool) (p q : Prop) : condK (!b) p q = condK b q p := by cases b <;> rfl
theorem condK_dec {c : Prop} [Decidable c] {p q : Prop} (h : c → p) (h' : ¬ c → q) : condK (decide c) p q := by
  by_cases hc : c
  · simp [condK, hc, h hc]
  · simp [condK, hc, h' hc]
theorem condK_beq {a b : Int} {p q : Prop} (h : a = b → p) (h' : a ≠ b → q) : condK (a == b) p q := by
  by_cases hc : a = b
  · simp [condK, hc]; exact h hc
  · simp [condK, hc]; exact h' hc
theorem condK_bne {a b : Int} {p q : Prop} (h : a ≠ b → p) (h' : a = b → q) : condK (a != b) p q := by
  by_cases hc : a = b
  · simp [condK, hc]; exact h' hc
  · simp [condK, hc]; exact h hc

theorem vc_skip : vc P T C .skip Q fr L = Q .normal fr L := by simp only [vc]
theorem vc_exit (i : Nat) : vc P T C (.exit i) Q fr L = Q (.exit i) fr L := by simp only [vc]
theorem vc_ret : vc P T C .ret Q fr L = Q .ret fr L := by simp only [vc]
theorem vc_seq (x y : Code) : vc P T C (.seq x y) Q fr L = vc P T C x (thenK (vc P T C y Q) Q) fr L := by simp only [vc]
theorem vc_cond (c : Operand) (x y : Code) : vc P T C (.cond c x y) Q fr L = boolK (ev fr c) fun t => condK (t) (vc P T C x Q fr L) (vc P T C y Q fr L) := by simp only [vc]
theorem vc_block (i : Nat) (c : Code) : vc P T C (.block i c) Q fr L = vc P T C c (blkK i Q) fr L := by simp only [vc]
theorem vc_region (id : Nat) (l : List Oper) : vc P T C (.region id l.toArray false) Q fr L = AOps P T l l (Q .normal) fr L := by simp only [vc]
theorem vc_draw (id : Nat) (ops : Array Oper) : vc P T C (.region id ops true) Q fr L = drawK P C id ops (Q .normal) fr L := by simp only [vc]
theorem vc_loop (c : Code) : vc P T C (.loop c) Q fr L = loopK P C c Q fr L := by simp only [vc]
theorem vc_congr (c : Code) (fr' : List AV) (L' : List AObj) (h : fr = fr') (h' : L = L') : vc P T C c Q fr L = vc P T C c Q fr' L' := by rw [h, h']
theorem thenK_congr (e : Exit) (fr' : List AV) (L' : List AObj) (h : fr = fr') (h' : L = L') : thenK N Q e fr L = thenK N Q e fr' L' := by rw [h, h']
theorem blkK_congr (i : Nat) (e : Exit) (fr' : List AV) (L' : List AObj) (h : fr = fr') (h' : L = L') : blkK i Q e fr L = blkK i Q e fr' L' := by rw [h, h']
theorem AOps_congr (ops : List Oper) (fr' : List AV) (L' : List AObj) (h : fr = fr') (h' : L = L') : AOps P T all ops N fr L = AOps P T all ops N fr' L' := by rw [h, h']
theorem finK_congr (rs : List ResultVar) (X : AV → List AObj → Prop) (e : Exit) (fr' : List AV) (L' : List AObj) (h : fr = fr') (h' : L = L') : finK T rs X e fr L = finK T rs X e fr' L' := by rw [h, h']

theorem AOps_nil : AOps P T all [] N fr L = N fr L := nrf rfl
/-- An operation that is not guarded. -/
theorem AOps_op (d : Option Tmp) (op : Op) (ty : TypeId) (pos : String) (af : Array Edge) :
    AOps P T all (⟨d, op, ty, pos, af, none⟩ :: rest) N fr L = aop P T op fr L fun v L' => AOps P T all rest N (putA fr d v) L' := nrf rfl
theorem AOps_guard (d : Option Tmp) (op : Op) (ty : TypeId) (pos : String) (af : Array Edge) (j : Nat) (want : Bool) :
    AOps P T all (⟨d, op, ty, pos, af, some (j, want)⟩ :: rest) N fr L = optK (all[j]?.bind fun o => o.dst) fun t => guK (fr.getD t .junk) (fun b => condK ((b == want))
      (AOps P T all (⟨d, op, ty, pos, af, none⟩ :: rest) N fr L) (AOps P T all rest N (putA fr d (.tup [])) L)) (AOps P T all rest N (putA fr d (.tup [])) L) := by
  simp only [AOps, gdK]
  cases h : all[j]? with
  | none => rfl
  | some o => cases h2 : o.dst <;> simp [optK, h2]

theorem aop_congr (op : Op) (fr' : List AV) (L' : List AObj) (h : fr = fr') (h' : L = L') : aop P T op fr L K = aop P T op fr' L' K := by rw [h, h']
theorem aop_move (x : Operand) : aop P T (.move x) fr L K = K (ev fr x) L := nrf rfl
theorem aop_assign (x : Operand) : aop P T (.assign x) fr L K = K (ev fr x) L := nrf rfl
theorem aop_pick (c a b : Operand) : aop P T (.pick c a b) fr L K = boolK (ev fr c) fun t => K (pickv t (ev fr a) (ev fr b)) L := nrf rfl
theorem aop_alloc (t : TypeId) : aop P T (.alloc t) fr L K = optK (T t) fun ti => K (.ptr L.length 0) (L ++ [.own ti.zero t]) := nrf rfl
theorem aop_box (t : TypeId) (x : Operand) : aop P T (.box t x) fr L K = optK (T t) fun ti => chkN ((ev fr x).solid = true) (K (.ptr L.length 0) (L ++ [.own (cellsOf (ev fr x)) t])) := nrf rfl
theorem aop_build (t : TypeId) (l : List (Nat × Operand)) : aop P T (.build t l.toArray) fr L K = optK (T t) fun ti => aggParts T ti (l.map fun p => (p.1, ev fr p.2)) fun cs => K (.agg cs) L := nrf rfl
theorem aop_buildSlice (t : TypeId) (n : Nat) (l : List (Nat × Operand)) (hn : n ≠ 0) : aop P T (.buildSlice t n l.toArray) fr L K = optK (T t) fun ti => slT ti.k fun e => optK (T e) fun te =>
      chkN (n * te.size ≤ 16777216 ∧ 0 < te.size) (optK (fillE te.size (List.replicate n te.zero).flatten (l.map fun p => (p.1, ev fr p.2))) fun cs =>
        K (.slice L.length 0 n) (L ++ [.own cs e])) := by simp [aop, astep, hn, chkN, nfp, fillE]
theorem aop_buildSlice0 (t : TypeId) : aop P T (.buildSlice t 0 #[]) fr L K = optK (T t) fun ti => slT ti.k fun e => optK (T e) fun te => K .noslice L := by simp [aop, astep]
theorem aop_load (t : TypeId) (x : Operand) : aop P T (.load t x) fr L K = optK (T t) fun ti => ptrK (ev fr x) fun i off => cellsK (lh L i) fun cs => loadK cs off ti.k.isAgg ti.size fun v => K v L := nrf rfl
theorem aop_store (t : TypeId) (x y : Operand) : aop P T (.store t x y) fr L K = optK (T t) fun ti => ptrK (ev fr x) fun i off => ownK (lh L i) fun cs e =>
      chkN ((cellsOf (ev fr y)).length = ti.size ∧ off + ti.size ≤ cs.length ∧ (cellsOf (ev fr y)).all AV.cell1 = true) (K .junk (L.set i (.own (setCells cs off (cellsOf (ev fr y))) e))) := nrf rfl
theorem aop_nilCheck (x : Operand) : aop P T (.nilCheck x) fr L K = nilK (ev fr x) fun v => K v L := nrf rfl
theorem aop_binOp (op : BinOp) (t t' : TypeId) (x y : Operand) : aop P T (.binOp op t x y t') fr L K = abin3 P T op t (ev fr x) (ev fr y) fun v => K v L := nrf rfl
theorem aop_unOp (op : UnOp) (t : TypeId) (x : Operand) : aop P T (.unOp op t x) fr L K = aun op (ev fr x) fun v => K v L := nrf rfl
def cvtK (T : TyTab) (a b : TK) (x : AV) (L : List AObj) (K : AV → List AObj → Prop) : Prop := match a, b with
  | .int _, .int k => intK x fun _ n => K (.int k (k.wrap n)) L
  | .slice e, .str => optK (T e) fun te => u8K te.k (slK x (fun i off len => cellsK (lh L i) fun cs => optK (intsOf ((cs.drop off).take len)) fun ns => chkN (ns.length = len) (K (.str (strOfNums ns)) L))
      (K (.str ByteArray.empty) L) (K (.str ByteArray.empty) L))
  | _, _ => False
theorem cvtK_int (k' k : IntKind) (x : AV) : cvtK T (.int k') (.int k) x L K = intK x fun _ n => K (.int k (k.wrap n)) L := nrf rfl
theorem cvtK_str (e : TypeId) (x : AV) : cvtK T (.slice e) .str x L K = optK (T e) fun te => u8K te.k (slK x (fun i off len => cellsK (lh L i) fun cs => optK (intsOf ((cs.drop off).take len)) fun ns => chkN (ns.length = len) (K (.str (strOfNums ns)) L))
      (K (.str ByteArray.empty) L) (K (.str ByteArray.empty) L)) := nrf rfl
theorem cvtK_congr (a a' b b' : TK) (x x' : AV) (L' : List AObj) (h1 : a = a') (h2 : b = b') (h3 : x = x') (h4 : L = L') : cvtK T a b x L K = cvtK T a' b' x' L' K := by rw [h1, h2, h3, h4]
theorem aop_convert (s t : TypeId) (x : Operand) : aop P T (.convert s t x) fr L K = optK (T s) fun si => optK (T t) fun ti => cvtK T si.k ti.k (ev fr x) L K := by
  simp only [aop, acv]
  refine congrArg _ (funext fun si => congrArg _ (funext fun ti => ?_))
  cases si.k <;> cases ti.k <;> rfl
theorem aop_makeSlice (t : TypeId) (x y : Operand) : aop P T (.makeSlice t x y) fr L K = optK (T t) fun ti => slT ti.k fun e => optK (T e) fun te => intK (ev fr x) fun _ n => intK (ev fr y) fun _ m =>
      chkN (0 ≤ n ∧ n = m ∧ n * te.bytes ≤ 281474976710656 ∧ n ≤ 9223372036854775807) (K (.slice L.length 0 n.toNat) (L ++ [.own (List.replicate n.toNat te.zero).flatten e])) := nrf rfl
theorem aop_slice (t : TypeId) (x : Operand) (lo hi : Option Operand) : aop P T (.slice t x lo hi none) fr L K = optK (T t) fun ti => slT ti.k fun e => optK (T e) fun te =>
      slK (ev fr x)
        (fun i off len => bndK fr lo 0 fun l => bndK fr hi len fun r => chkN (elemIs (lh L i) e ∧ 0 ≤ l ∧ l ≤ r ∧ r ≤ len) (K (.slice i (off + l.toNat * te.size) (r.toNat - l.toNat)) L))
        (bndK fr lo 0 fun l => bndK fr hi 0 fun r => chkN (l = 0 ∧ r = 0) (K .nilslice L))
        (bndK fr lo 0 fun l => bndK fr hi 0 fun r => chkN (l = 0 ∧ r = 0) (K .noslice L)) := nrf rfl
theorem aop_fieldAddr (t : TypeId) (x : Operand) (f : Nat) : aop P T (.fieldAddr t x f) fr L K = optK (T t) fun ti => match ti.k with
      | .struct fs => ptrK (ev fr x) fun i off => optK fs[f]? fun fd => chkN (fd.2.2 ≠ 0) (K (.ptr i (off + fd.1)) L)
      | _ => False := nrf rfl
theorem aop_field (t : TypeId) (x : Operand) (f : Nat) : aop P T (.field t x f) fr L K = optK (T t) fun ti => match ti.k with
      | .struct fs => aggK (ev fr x) fun cs => optK fs[f]? fun fd => optK (T fd.2.1) fun tf => loadK cs fd.1 tf.k.isAgg tf.size fun v => K v L
      | _ => False := nrf rfl
theorem aop_indexAddr (t : TypeId) (x ix : Operand) : aop P T (.indexAddr t x ix) fr L K = optK (T t) fun ti => intK (ev fr ix) fun _ n => match ti.k with
      | .slice e => optK (T e) fun te => slK (ev fr x) (fun i off len => chkN (0 ≤ n ∧ n < len) (K (.ptr i (off + n.toNat * te.size)) L)) False False
      | .arr m e => optK (T e) fun te => ptrK (ev fr x) fun i off => chkN (0 ≤ n ∧ n < m) (K (.ptr i (off + n.toNat * te.size)) L)
      | _ => False := nrf rfl
theorem aop_index (t : TypeId) (x ix : Operand) : aop P T (.index t x ix) fr L K = optK (T t) fun ti => intK (ev fr ix) fun _ n => match ti.k with
      | .arr m e => optK (T e) fun te => aggK (ev fr x) fun cs => chkN (0 ≤ n ∧ n < m) (loadK cs (n.toNat * te.size) te.k.isAgg te.size fun v => K v L)
      | _ => False := nrf rfl
theorem aop_extract (x : Operand) (n : Nat) : aop P T (.extract x n) fr L K = tupK (ev fr x) fun vs => optK vs[n]? fun v => K v L := nrf rfl
theorem aop_makeFunc (f : Fn) (l : List Operand) : aop P T (.makeFunc f #[] l.toArray) fr L K = K (.fn f (l.map (ev fr))) L := nrf rfl
theorem aop_call (f : Operand) (l : List Operand) (ts : Array TypeId) : aop P T (.call { callee := .value f, args := l.toArray, argTypes := ts }) fr L K = fnK (ev fr f) fun fid caps => callK P fid (l.map (ev fr) ++ caps) L K := nrf rfl
theorem aop_len (x : Operand) (t : TypeId) : aop P T (.call { callee := .builtin .len, args := #[x], argTypes := #[t] }) fr L K = optK (T t) fun ti => lenK ti.k (ev fr x) fun v => K v L := by
  simp only [aop, astep, optK, List.getElem?_cons_zero]
  cases T t with
  | none => rfl
  | some ti => cases h : ti.k <;> simp [lenK, h] <;> cases h2 : ev fr x <;> simp [slK, strK, h2]
theorem aop_min (l : List Operand) (ts : Array TypeId) : aop P T (.call { callee := .builtin .min, args := l.toArray, argTypes := ts }) fr L K = astep.mm fr true l fun v => K v L := nrf rfl
theorem aop_max (l : List Operand) (ts : Array TypeId) : aop P T (.call { callee := .builtin .max, args := l.toArray, argTypes := ts }) fr L K = astep.mm fr false l fun v => K v L := nrf rfl
theorem aop_append (x y : Operand) (t t' : TypeId) : aop P T (.call { callee := .builtin .append, args := #[x, y], argTypes := #[t, t'] }) fr L K = optK (T t) fun ti => optK (T t') fun ti' => slT ti'.k fun _ => slT ti.k fun e => optK (T e) fun te =>
      astep.app e te (ev fr x) (ev fr y) L K := nrf rfl
theorem app_congr (e : TypeId) (te : TI) (x x' y y' : AV) (L' : List AObj) (h : x = x') (h' : y = y') (hL : L = L') : astep.app e te x y L K = astep.app e te x' y' L' K := by rw [h, h', hL]
theorem news_congr (te : TI) (y y' : AV) (L' : List AObj) (k : Nat → List AV → Prop) (h : y = y') (hL : L = L') : astep.news y te L k = astep.news y' te L' k := by rw [h, hL]
theorem app_sl (e : TypeId) (te : TI) (i off len : Nat) (y : AV) : astep.app e te (.slice i off len) y L K = ownK (lh L i) fun cs e' => astep.news y te L fun m new =>
        chkN (off = 0 ∧ e' = e ∧ len * te.size = cs.length ∧ 0 < te.size ∧ 0 < te.bytes ∧ (len + m) * te.bytes ≤ 140737488355328 ∧ new.all AV.cell1 = true) (K (.slice L.length 0 (len + m)) (L.set i .dead ++ [.own (cs ++ new) e])) := nrf rfl
theorem app_nil (e : TypeId) (te : TI) (y : AV) : astep.app e te .nilslice y L K = astep.news y te L fun m new => chkN (0 < te.size ∧ 0 < te.bytes ∧ m * te.bytes ≤ 140737488355328 ∧ new.all AV.cell1 = true) (K (.slice L.length 0 m) (L ++ [.own new e])) := nrf rfl
theorem app_no (e : TypeId) (te : TI) (y : AV) : astep.app e te .noslice y L K = astep.news y te L fun m new => chkN (0 < te.size ∧ 0 < te.bytes ∧ m * te.bytes ≤ 140737488355328 ∧ new.all AV.cell1 = true) (K (.slice L.length 0 m) (L ++ [.own new e])) := nrf rfl
theorem news_sl (te : TI) (i off len : Nat) (k : Nat → List AV → Prop) : astep.news (.slice i off len) te L k = cellsK (lh L i) fun cs => chkN (off + len * te.size ≤ cs.length) (k len ((cs.drop off).take (len * te.size))) := nrf rfl
theorem news_nil (te : TI) (k : Nat → List AV → Prop) : astep.news .nilslice te L k = k 0 [] := nrf rfl
theorem news_no (te : TI) (k : Nat → List AV → Prop) : astep.news .noslice te L k = k 0 [] := nrf rfl
theorem mm_cons (m : Bool) (x : Operand) (xs : List Operand) (k : AV → Prop) : astep.mm fr m (x :: xs) k = intK (ev fr x) fun kk n => astep.mmGo fr m kk n xs k := nrf rfl
theorem mmGo_nil (m : Bool) (kk : IntKind) (n : Int) (k : AV → Prop) : astep.mmGo fr m kk n [] k = k (.int kk n) := nrf rfl
theorem mmGo_cons (m : Bool) (kk : IntKind) (n : Int) (x : Operand) (xs : List Operand) (k : AV → Prop) : astep.mmGo fr m kk n (x :: xs) k = intK (ev fr x) fun _ y => astep.mmGo fr m kk (if m then (if y < n then y else n) else (if y > n then y else n)) xs k := rfl
theorem mmGo_congr (m : Bool) (kk : IntKind) (n n' : Int) (fr' : List AV) (xs : List Operand) (k : AV → Prop) (h : fr = fr') (hn : n = n') : astep.mmGo fr m kk n xs k = astep.mmGo fr' m kk n' xs k := by rw [h, hn]

theorem ev_tmp (t : Tmp) : ev fr (.tmp t) = fr.getD t .junk := nrf rfl
theorem ev_const (v : Value) : ev fr (.const v) = ofVal v := nrf rfl
theorem ev_func (f : FuncId) : ev fr (.func f) = .fn (.func f) [] := nrf rfl
theorem ofVal_int (k : IntKind) (n : Int) : ofVal (.int k n) = .int k n := nrf rfl
theorem ofVal_bool (b : Bool) : ofVal (.bool b) = .bool b := nrf rfl
theorem ofVal_str (s : ByteArray) : ofVal (.string s) = .str s := nrf rfl
theorem ofVal_nilptr : ofVal (.pointer none) = .nilptr := nrf rfl
theorem ofVal_nilslice : ofVal (.slice none 0 0) = .nilslice := nrf rfl
theorem ofVal_agg (l : List Value) : ofVal (.agg l.toArray) = .agg (ofVals l) := nrf rfl
theorem ofVals_nil : ofVals [] = [] := nrf rfl
theorem ofVals_cons (v : Value) (l : List Value) : ofVals (v :: l) = ofVal1 v :: ofVals l := nrf rfl
theorem ofVal1_int (k : IntKind) (n : Int) : ofVal1 (.int k n) = .int k n := nrf rfl
theorem ofVal1_bool (b : Bool) : ofVal1 (.bool b) = .bool b := nrf rfl
theorem ofVal1_nilptr : ofVal1 (.pointer none) = .nilptr := nrf rfl
theorem ofVal1_nilslice : ofVal1 (.slice none 0 0) = .nilslice := nrf rfl
theorem getD_zero (v : AV) (vs : List AV) (d : AV) : (v :: vs).getD 0 d = v := nrf rfl
theorem getD_succ (v : AV) (vs : List AV) (i : Nat) (d : AV) : (v :: vs).getD (i + 1) d = vs.getD i d := nrf rfl
theorem setL_zero {α : Type} (v : α) (vs : List α) (u : α) : (v :: vs).set 0 u = u :: vs := nrf rfl
theorem setL_succ {α : Type} (v : α) (vs : List α) (i : Nat) (u : α) : (v :: vs).set (i + 1) u = v :: vs.set i u := nrf rfl
theorem lh_zero (o : AObj) (L : List AObj) : lh (o :: L) 0 = o := nrf rfl
theorem lh_succ (o : AObj) (L : List AObj) (i : Nat) : lh (o :: L) (i + 1) = lh L i := nrf rfl
theorem lh_nil (i : Nat) : lh [] i = .unborn := by simp [lh]
theorem solid_int (k : IntKind) (n : Int) : (AV.int k n).solid = true := nrf rfl
theorem solid_bool (b : Bool) : (AV.bool b).solid = true := nrf rfl
theorem solid_agg (l : List AV) : (AV.agg l).solid = true := nrf rfl
theorem solid_ptr (i o : Nat) : (AV.ptr i o).solid = true := nrf rfl
theorem solid_slice (i o l : Nat) : (AV.slice i o l).solid = true := nrf rfl
theorem solid_nilslice : AV.nilslice.solid = true := nrf rfl
theorem solid_noslice : AV.noslice.solid = true := nrf rfl
theorem solid_nilptr : AV.nilptr.solid = true := nrf rfl
theorem solid_str (s : ByteArray) : (AV.str s).solid = true := nrf rfl
theorem cellsOf_agg (l : List AV) : cellsOf (.agg l) = l := nrf rfl
theorem cellsOf_int (k : IntKind) (n : Int) : cellsOf (.int k n) = [.int k n] := nrf rfl
theorem cellsOf_bool (b : Bool) : cellsOf (.bool b) = [.bool b] := nrf rfl
theorem cellsOf_ptr (i o : Nat) : cellsOf (.ptr i o) = [.ptr i o] := nrf rfl
theorem cellsOf_slice (i o l : Nat) : cellsOf (.slice i o l) = [.slice i o l] := nrf rfl
theorem cellsOf_nilslice : cellsOf .nilslice = [.nilslice] := nrf rfl
theorem cellsOf_noslice : cellsOf .noslice = [.noslice] := nrf rfl
theorem cellsOf_nilptr : cellsOf .nilptr = [.nilptr] := nrf rfl
theorem cellsOf_str (s : ByteArray) : cellsOf (.str s) = [.str s] := nrf rfl
theorem cell1_int (k : IntKind) (n : Int) : (AV.int k n).cell1 = true := nrf rfl
theorem cell1_bool (b : Bool) : (AV.bool b).cell1 = true := nrf rfl
theorem cell1_ptr (i o : Nat) : (AV.ptr i o).cell1 = true := nrf rfl
theorem cell1_slice (i o l : Nat) : (AV.slice i o l).cell1 = true := nrf rfl
theorem cell1_nilslice : AV.nilslice.cell1 = true := nrf rfl
theorem cell1_noslice : AV.noslice.cell1 = true := nrf rfl
theorem cell1_nilptr : AV.nilptr.cell1 = true := nrf rfl
theorem cell1_str (s : ByteArray) : (AV.str s).cell1 = true := nrf rfl
theorem isAgg_int (k : IntKind) : (TK.int k).isAgg = false := nrf rfl
theorem isAgg_bool : TK.bool.isAgg = false := nrf rfl
theorem isAgg_str : TK.str.isAgg = false := nrf rfl
theorem isAgg_slice (e : TypeId) : (TK.slice e).isAgg = false := nrf rfl
theorem isAgg_ptr (e : TypeId) : (TK.ptr e).isAgg = false := nrf rfl
theorem isAgg_func : TK.func.isAgg = false := nrf rfl
theorem isAgg_arr (n : Nat) (e : TypeId) : (TK.arr n e).isAgg = true := nrf rfl
theorem isAgg_struct (fs : List (Nat × TypeId × Nat)) : (TK.struct fs).isAgg = true := nrf rfl
theorem lenK_slice (e : TypeId) (v : AV) (K : AV → Prop) : lenK (.slice e) v K = slK v (fun _ _ len => K (.int .i64 len)) (K (.int .i64 0)) (K (.int .i64 0)) := nrf rfl
theorem lenK_arr (n : Nat) (e : TypeId) (v : AV) (K : AV → Prop) : lenK (.arr n e) v K = K (.int .i64 n) := nrf rfl
theorem lenK_str (v : AV) (K : AV → Prop) : lenK .str v K = strK v K := nrf rfl
theorem strK_str (s : ByteArray) (K : AV → Prop) : strK (.str s) K = K (.int .i64 s.size) := nrf rfl
theorem lenK_congr (k k' : TK) (v v' : AV) (K : AV → Prop) (h : k = k') (h' : v = v') : lenK k v K = lenK k' v' K := by rw [h, h']
theorem slT_congr (k k' : TK) (f : TypeId → Prop) (h : k = k') : slT k f = slT k' f := by rw [h]
theorem loadK_congr (cs cs' : List AV) (off off' : Nat) (b b' : Bool) (n n' : Nat) (K : AV → Prop) (h : cs = cs') (h1 : off = off') (h2 : b = b') (h3 : n = n') : loadK cs off b n K = loadK cs' off' b' n' K := by rw [h, h1, h2, h3]
theorem ibin_congr (op : BinOp) (k : IntKind) (a a' b b' : Int) (K : AV → Prop) (h : a = a') (h' : b = b') : ibin op k a b K = ibin op k a' b' K := by rw [h, h']
theorem eqT_congr (op : BinOp) (r r' : Bool) (K : AV → Prop) (h : r = r') : eqT op r K = eqT op r' K := by rw [h]
theorem bndK_congr (x : Option Operand) (d : Int) (f : Int → Prop) (fr' : List AV) (h : fr = fr') : bndK fr x d f = bndK fr' x d f := by rw [h]
theorem aggParts_struct (s b : Nat) (z : List AV) (fs : List (Nat × TypeId × Nat)) (parts : List (Nat × AV)) (K : List AV → Prop) : aggParts T ⟨s, b, z, .struct fs⟩ parts K = optK (fillS (fs.map fun f => (f.1, f.2.2)) z parts) K := by
  have : ∀ (ps : List (Nat × AV)) (z : List AV), fillA (fun i => (fs[i]?).map (fun f => (f.1, f.2.2))) z ps = fillS (fs.map fun f => (f.1, f.2.2)) z ps := by
    intro ps
    induction ps with
    | nil => intro z; rfl
    | cons p ps ih =>
      intro z
      obtain ⟨i, v⟩ := p
      simp only [fillA, fillS, List.getElem?_map]
      cases fs[i]? with
      | none => rfl
      | some f => simp only [Option.map_some]; split <;> simp [*]
  simp only [aggParts, this]
theorem aggParts_arr (s b n : Nat) (e : TypeId) (z : List AV) (parts : List (Nat × AV)) (K : List AV → Prop) : aggParts T ⟨s, b, z, .arr n e⟩ parts K = optK (T e) fun te => optK (fillE te.size z parts) K := nrf rfl
theorem fillE_nil (sz : Nat) (cs : List AV) : fillE sz cs [] = some cs := nrf rfl
theorem fillE_cons (sz : Nat) (cs : List AV) (i : Nat) (v : AV) (rest : List (Nat × AV)) : fillE sz cs ((i, v) :: rest) = if v.solid = true ∧ (cellsOf v).length = sz ∧ i * sz + sz ≤ cs.length then fillE sz (setCells cs (i * sz) (cellsOf v)) rest else none := nrf rfl
theorem fillS_nil (pl : List (Nat × Nat)) (cs : List AV) : fillS pl cs [] = some cs := nrf rfl
theorem fillS_cons (pl : List (Nat × Nat)) (cs : List AV) (i : Nat) (v : AV) (rest : List (Nat × AV)) : fillS pl cs ((i, v) :: rest) = match pl[i]? with
      | none => none
      | some (off, size) => if v.solid = true ∧ (cellsOf v).length = size ∧ off + size ≤ cs.length then fillS pl (setCells cs off (cellsOf v)) rest else none := nrf rfl
theorem resK_nil (acc : List AV) (X : AV → List AObj → Prop) : resK T fr L [] acc X = X (tupOf acc) L := nrf rfl
theorem resK_tmp (t : Tmp) (rs : List ResultVar) (acc : List AV) (X : AV → List AObj → Prop) : resK T fr L (.tmp t :: rs) acc X = resK T fr L rs (acc ++ [fr.getD t .junk]) X := nrf rfl
theorem resK_cell (ad : Tmp) (t : TypeId) (rs : List ResultVar) (acc : List AV) (X : AV → List AObj → Prop) : resK T fr L (.cell ad t :: rs) acc X = optK (T t) fun ti => ptrK (fr.getD ad .junk) fun i off => cellsK (lh L i) fun cs => loadK cs off ti.k.isAgg ti.size fun v => resK T fr L rs (acc ++ [v]) X := nrf rfl
theorem resK_congr (rs : List ResultVar) (acc acc' : List AV) (X : AV → List AObj → Prop) (fr' : List AV) (L' : List AObj) (h : fr = fr') (h' : L = L') (h'' : acc = acc') : resK T fr L rs acc X = resK T fr' L' rs acc' X := by rw [h, h', h'']
end
attribute [congr] optK_congr intK_congr boolK_congr ptrK_congr tupK_congr aggK_congr slK_congr cellsK_congr ownK_congr abin_congr abin2_congr aun_congr nilK_congr fnK_congr guK_congr abin3_congr cvtK_congr vc_congr thenK_congr blkK_congr AOps_congr finK_congr aop_congr app_congr news_congr mmGo_congr lenK_congr slT_congr loadK_congr ibin_congr eqT_congr bndK_congr resK_congr
end Go.Proofs.Ytbfefpkhalegmaa

set_option linter.unusedVariables false
set_option linter.unusedSimpArgs false
namespace Go.Proofs.Ytbfefpkhalegmaa
open Go

/-! ### Values without addresses -/
mutual
def plainV : AV → Bool
  | .ptr _ _ => false
  | .slice _ _ _ => false
  | .fn _ caps => plainVs caps
  | .agg cs => plainVs cs
  | .tup cs => plainVs cs
  | _ => true
def plainVs : List AV → Bool
  | [] => true
  | v :: vs => plainV v && plainVs vs
end
mutual
theorem ren_plain (σ : Nat → Nat) (v : AV) (h : plainV v = true) : ren σ v = v := by
  cases v with
  | fn f caps => simp only [ren]; rw [rens_plain σ caps (by simpa [plainV] using h)]
  | agg cs => simp only [ren]; rw [rens_plain σ cs (by simpa [plainV] using h)]
  | tup cs => simp only [ren]; rw [rens_plain σ cs (by simpa [plainV] using h)]
  | ptr i o => simp [plainV] at h
  | slice i o l => simp [plainV] at h
  | _ => rfl
theorem rens_plain (σ : Nat → Nat) (vs : List AV) (h : plainVs vs = true) : rens σ vs = vs := by
  cases vs with
  | nil => rfl
  | cons v vs =>
    simp only [plainVs, Bool.and_eq_true] at h
    rw [rens, ren_plain σ v h.1, rens_plain σ vs h.2]
end
mutual
theorem okIn_plain (B : Nat → Prop) (v : AV) (h : plainV v = true) : okIn B v := by
  cases v with
  | fn f caps => exact okIns_plain B caps (by simpa [plainV] using h)
  | agg cs => exact okIns_plain B cs (by simpa [plainV] using h)
  | tup cs => exact okIns_plain B cs (by simpa [plainV] using h)
  | ptr i o => simp [plainV] at h
  | slice i o l => simp [plainV] at h
  | _ => trivial
theorem okIns_plain (B : Nat → Prop) (vs : List AV) (h : plainVs vs = true) : okIns B vs := by
  cases vs with
  | nil => trivial
  | cons v vs =>
    simp only [plainVs, Bool.and_eq_true] at h
    exact ⟨okIn_plain B v h.1, okIns_plain B vs h.2⟩
end
theorem plainVs_iff {vs : List AV} : plainVs vs = true ↔ ∀ v ∈ vs, plainV v = true := by
  induction vs with
  | nil => simp [plainVs]
  | cons v vs ih => simp [plainVs, ih]

/-- Whole numbers as cells. -/
def ints (k : IntKind) (l : List Int) : List AV := l.map fun n => .int k n
theorem ints_length (k : IntKind) (l : List Int) : (ints k l).length = l.length := by simp [ints]
theorem ints_plain (k : IntKind) (l : List Int) : plainVs (ints k l) = true := by
  rw [plainVs_iff]; intro v hv; obtain ⟨n, _, rfl⟩ := List.mem_map.1 hv; rfl
theorem ints_cell1 (k : IntKind) (l : List Int) : (ints k l).all AV.cell1 = true := by
  rw [List.all_eq_true]; intro v hv; obtain ⟨n, _, rfl⟩ := List.mem_map.1 hv; rfl
theorem ints_get (k : IntKind) (l : List Int) (i : Nat) (h : i < l.length) : (ints k l)[i]? = some (.int k (l.getD i 0)) := by
  simp [ints, h, List.getD]
theorem ints_set (k : IntKind) (l : List Int) (i : Nat) (n : Int) : (ints k l).set i (.int k n) = ints k (l.set i n) := by simp [ints, List.map_set]
theorem ints_append (k : IntKind) (l m : List Int) : ints k l ++ ints k m = ints k (l ++ m) := by simp [ints]
theorem ints_nil (k : IntKind) : ints k [] = [] := rfl
theorem ints_cons (k : IntKind) (n : Int) (l : List Int) : ints k (n :: l) = .int k n :: ints k l := rfl
theorem ints_snoc (k : IntKind) (l : List Int) (n : Int) : ints k l ++ [.int k n] = ints k (l ++ [n]) := by simp [ints]
theorem ints_drop (k : IntKind) (l : List Int) (i : Nat) : (ints k l).drop i = ints k (l.drop i) := by simp [ints, List.map_drop]
theorem ints_take (k : IntKind) (l : List Int) (i : Nat) : (ints k l).take i = ints k (l.take i) := by simp [ints, List.map_take]
theorem ints_zeros (k : IntKind) (n : Nat) : (List.replicate n [AV.int k 0]).flatten = ints k (List.replicate n 0) := by
  induction n with
  | zero => rfl
  | succ n ih => rw [List.replicate_succ, List.flatten_cons, ih, List.replicate_succ, ints_cons]; rfl
theorem intsOf_ints : ∀ (l : List Int), intsOf (ints .u8 l) = some l
  | [] => rfl
  | n :: l => by rw [ints_cons, intsOf, intsOf_ints l]; rfl
theorem rens_ints (σ : Nat → Nat) (k : IntKind) (l : List Int) : rens σ (ints k l) = ints k l := rens_plain σ _ (ints_plain k l)
theorem okIns_ints (B : Nat → Prop) (k : IntKind) (l : List Int) : okIns B (ints k l) = True := by simp [okIns_plain B _ (ints_plain k l)]

/-! ### Leaving a function that hands back no memory of its own -/
def keepO (n : Nat) (o0 o : AObj) : Prop := match o with
  | .own cs _ => okIns (fun i => i < n) cs
  | .ro cs e => o0 = .ro cs e ∧ okIns (fun i => i < n) cs
  | .dead => True
  | .unborn => False
theorem keepO_own (n : Nat) (o0 : AObj) (cs : List AV) (e : TypeId) : keepO n o0 (.own cs e) = okIns (fun i => i < n) cs := rfl
theorem keepO_ro (n : Nat) (o0 : AObj) (cs : List AV) (e : TypeId) : keepO n o0 (.ro cs e) = (o0 = .ro cs e ∧ okIns (fun i => i < n) cs) := rfl
theorem keepO_dead (n : Nat) (o0 : AObj) : keepO n o0 .dead = True := rfl
def keepL (n : Nat) : List AObj → List AObj → Prop
  | o0 :: L0, o :: L1 => keepO n o0 o ∧ keepL n L0 L1
  | [], [] => True
  | _, _ => False
theorem keepL_cons (n : Nat) (o0 o : AObj) (L0 L1 : List AObj) : keepL n (o0 :: L0) (o :: L1) = (keepO n o0 o ∧ keepL n L0 L1) := rfl
theorem keepL_nil (n : Nat) : keepL n [] [] = True := rfl
theorem keepL_length {n : Nat} : ∀ (L0 L1 : List AObj), keepL n L0 L1 → L0.length = L1.length
  | [], [], _ => rfl
  | _ :: L0, _ :: L1, h => by simp [keepL_length L0 L1 h.2]
  | [], _ :: _, h => h.elim
  | _ :: _, [], h => h.elim

theorem injOk_range (ks : List Nat) : ∀ (n a : Nat), injOk (List.range' a n) ks = true := by
  intro n
  induction n generalizing ks with
  | zero => intro a; cases ks <;> rfl
  | succ n ih =>
    intro a
    rw [List.range'_succ]
    cases ks with
    | nil => rfl
    | cons k ks =>
      simp only [injOk, Bool.and_eq_true, List.all_eq_true]
      refine ⟨fun p hp => ?_, ih ks (a + 1)⟩
      have : p.1 ∈ List.range' (a + 1) n := (List.of_mem_zip hp).1
      rw [List.mem_range'_1] at this
      have : p.1 ≠ a := by omega
      simp [this]

mutual
theorem ren_on {B : Nat → Prop} {σ : Nat → Nat} (hσ : ∀ i, B i → σ i = i) (v : AV) (h : okIn B v) : ren σ v = v := by
  cases v with
  | fn f caps => simp only [ren]; rw [rens_on hσ caps h]
  | agg cs => simp only [ren]; rw [rens_on hσ cs h]
  | tup cs => simp only [ren]; rw [rens_on hσ cs h]
  | ptr i o => simp only [ren]; rw [hσ i h]
  | slice i o l => simp only [ren]; rw [hσ i h]
  | _ => rfl
theorem rens_on {B : Nat → Prop} {σ : Nat → Nat} (hσ : ∀ i, B i → σ i = i) (vs : List AV) (h : okIns B vs) : rens σ vs = vs := by
  cases vs with
  | nil => rfl
  | cons v vs => rw [rens, ren_on hσ v h.1, rens_on hσ vs h.2]
end

theorem exit_keep {L0 L1 G : List AObj} {R : AV → List AObj → Prop} {r : AV} (hR : R r L1) (hr : okIn (fun i => i < L1.length) r) (hk : keepL L1.length L0 L1) : exitP L0 R r (L1 ++ G) := by
  have hl := keepL_length L0 L1 hk
  have hb : ∀ (n : Nat) (L0 L1 : List AObj), keepL n L0 L1 → ∀ i, i < L1.length → born (lh L1) i := by
    intro n L0 L1
    induction L1 generalizing L0 with
    | nil => intro _ i hi; simp at hi
    | cons o L1 ih =>
      intro h i hi
      cases L0 with
      | nil => exact h.elim
      | cons o0 L0 =>
        cases i with
        | zero => have := h.1; cases o <;> simp_all [keepO, born, lh, AObj.born]
        | succ i =>
          have := ih L0 h.2 i (by simpa using hi)
          simpa [born, lh] using this
  have hbb := hb _ _ _ hk
  have hre : ∀ j, j < L1.length → sg L0.length [] j = j := fun j hj => by simp [sg, hl, hj]
  have hid : ∀ (v : AV), okIn (fun i => i < L1.length) v → ren (sg L0.length []) v = v ∧ True := by
    intro v hv; exact ⟨ren_on hre v hv, trivial⟩
  refine ⟨[], r, L1, hR, (hid r hr).1.symm, okIn.mono hbb r hr, by simp [hl], ?_, ?_⟩
  · have key : ∀ (A0 A1 : List AObj) (j : Nat), j + A1.length = L1.length → (∀ i, i < A1.length → lh A1 i = lh L1 (j + i)) → keepL L1.length A0 A1 → exK (sg L0.length []) (born (lh L1)) (L1 ++ G) A0 j A1 := by
      intro A0 A1
      induction A1 generalizing A0 with
      | nil => intro j _ _ h; cases A0 with | nil => trivial | cons _ _ => exact h.elim
      | cons o A1 ih =>
        intro j hj hg h
        cases A0 with
        | nil => exact h.elim
        | cons o0 A0 =>
          have hjl : j < L1.length := by simp at hj; omega
          have hget : lh (L1 ++ G) (sg L0.length [] j) = o := by
            rw [hre j hjl]
            have h0 := hg 0 (by simp)
            simp only [Nat.add_zero] at h0
            have : lh (L1 ++ G) j = lh L1 j := by simp [lh, List.getElem?_append_left hjl]
            rw [this, ← h0]; rfl
          refine ⟨⟨?_, ?_, ?_⟩, ih A0 (j + 1) (by simp at hj; omega) (fun i hi => ?_) h.2⟩
          · rw [hget]
            have := h.1
            cases o with
            | own cs e => exact ⟨by rw [rens_on hre cs this], okIns.mono hbb _ this⟩
            | ro cs e => exact ⟨.inl (by rw [rens_on hre cs this.2]), okIns.mono hbb _ this.2⟩
            | _ => trivial
          · have := h.1; cases o <;> simp_all [keepO, AObj.born]
          · have := h.1; cases o <;> simp_all [keepO, roSame]
          · have := hg (i + 1) (by simpa using hi)
            rw [show j + (i + 1) = j + 1 + i by omega] at this
            rw [← this]; rfl
    exact key L0 L1 0 (by simp) (fun i hi => by simp) hk
  · rw [List.append_nil, List.range_eq_range']; exact injOk_range _ _ _

end Go.Proofs.Ytbfefpkhalegmaa

set_option linter.unusedVariables false
set_option linter.unusedSimpArgs false
namespace Go.Proofs.Ytbfefpkhalegmaa
open Go

theorem ren_int (σ : Nat → Nat) (k : IntKind) (n : Int) : ren σ (.int k n) = .int k n := nrf (by simp [ren])
theorem ren_bool (σ : Nat → Nat) (b : Bool) : ren σ (.bool b) = .bool b := nrf (by simp [ren])
theorem ren_str (σ : Nat → Nat) (b : ByteArray) : ren σ (.str b) = .str b := nrf (by simp [ren])
theorem ren_junk (σ : Nat → Nat) : ren σ .junk = .junk := nrf (by simp [ren])
theorem ren_nilptr (σ : Nat → Nat) : ren σ .nilptr = .nilptr := nrf (by simp [ren])
theorem ren_nilslice (σ : Nat → Nat) : ren σ .nilslice = .nilslice := nrf (by simp [ren])
theorem ren_noslice (σ : Nat → Nat) : ren σ .noslice = .noslice := nrf (by simp [ren])
theorem ren_ptr (σ : Nat → Nat) (i o : Nat) : ren σ (.ptr i o) = .ptr (σ i) o := nrf (by simp [ren])
theorem ren_slice (σ : Nat → Nat) (i o l : Nat) : ren σ (.slice i o l) = .slice (σ i) o l := nrf (by simp [ren])
theorem ren_agg (σ : Nat → Nat) (cs : List AV) : ren σ (.agg cs) = .agg (rens σ cs) := nrf (by simp [ren])
theorem ren_tup (σ : Nat → Nat) (cs : List AV) : ren σ (.tup cs) = .tup (rens σ cs) := nrf (by simp [ren])
theorem rens_cons (σ : Nat → Nat) (v : AV) (cs : List AV) : rens σ (v :: cs) = ren σ v :: rens σ cs := nrf (by simp [rens])
theorem rens_nil (σ : Nat → Nat) : rens σ [] = [] := nrf (by simp [rens])
theorem sig_eq (s : List Nat) (n i : Nat) : sig s n i = if i < s.length then s.getD i 0 else n + (i - s.length) := rfl
theorem renO_own' (σ : Nat → Nat) (cs : List AV) (e : TypeId) : renO σ (.own cs e) = .own (rens σ cs) e := nrf rfl
theorem renO_ro' (σ : Nat → Nat) (cs : List AV) (e : TypeId) : renO σ (.ro cs e) = .ro (rens σ cs) e := nrf rfl
theorem renO_dead (σ : Nat → Nat) : renO σ .dead = .dead := nrf rfl
theorem mrg_cons (σ : Nat → Nat) (i : Nat) (s : List Nat) (o0 o : AObj) (L0 L0' L : List AObj) : mrg σ (i :: s) (o0 :: L0) (o :: L0') L = mrg σ s L0 L0' (mset L i o0 (renO σ o)) := nrf (by simp [mrg])
theorem mrg_nil (σ : Nat → Nat) (L0' L : List AObj) : mrg σ [] [] L0' L = L ++ L0'.map (renO σ) := nrf (by simp [mrg])

section
variable {P : Program} {f : FuncId} {L L0 : List AObj} {K : AV → List AObj → Prop} {args args0 : List AV} {v : AV}

theorem renO_of_objM {σ : Nat → Nat} {B0 : Nat → Prop} {o0 o : AObj} (h : objM σ B0 o0 o) (ho : o0.isOwn) : o = renO σ o0 := by
  cases o0 <;> first | exact h.1 | exact ho.elim

theorem mset_same {σ : Nat → Nat} {B0 : Nat → Prop} {i : Nat} {o0 : AObj} (h : objM σ B0 o0 (lh L i)) (hi : i < L.length) : mset L i o0 (renO σ o0) = L := by
  cases o0 with
  | own cs e =>
    rw [mset_own]
    have : renO σ (.own cs e) = L[i] := by
      have h2 := renO_of_objM h trivial
      rw [← h2]; simp [lh, List.getD, hi]
    rw [this]; exact List.set_getElem_self hi
  | _ => rfl

theorem mrg_same {σ : Nat → Nat} {B0 : Nat → Prop} : ∀ (s : List Nat) (L0 : List AObj), matK σ B0 L s L0 → mrg σ s L0 L0 L = L
  | [], [], _ => by simp [mrg]
  | i :: s, o0 :: L0, h => by
    simp only [mrg]
    rw [mset_same h.1.1 h.1.2.1]
    exact mrg_same s L0 h.2
  | [], _ :: _, h => h.elim
  | _ :: _, [], h => h.elim

/-- A callee that reads. -/
theorem callK_read (c : LCall P f args0 L0 fun r L => r = v ∧ L = L0) (s : List Nat)
    (hargs : args = rens (sig s L.length) args0) (hok : okIns (born (lh L0)) args0) (hmat : matK (sig s L.length) (born (lh L0)) L s L0) (hinj : injOk s (L0.map kindOf) = true)
    (hK : K (ren (sig s L.length) v) L) : callK P f args L K := by
  refine callK_of c s hargs hok hmat hinj ⟨v, L0, Nat.le_refl _, rfl, rfl⟩ ?_
  rintro r L0' _ ⟨rfl, rfl⟩
  rw [mrg_same s L0' hmat]
  exact hK

/-- A callee that is handed plain values and hands back one. -/
theorem callK_pure (c : LCall P f args [] fun r L => r = v ∧ L = []) (ha : plainVs args = true) (hv : plainV v = true) (hK : K v L) : callK P f args L K := by
  refine callK_read c [] (rens_plain _ _ ha).symm (okIns_plain _ _ ha) trivial rfl ?_
  rw [ren_plain _ _ hv]
  exact hK
theorem exit_of {R : AV → List AObj → Prop} {r : AV} (π : List Nat) (r0 : AV) (L1 : List AObj) (hR : R r0 L1) (hr : r = ren (sg L0.length π) r0) (hok : okIn (born (lh L1)) r0) (hl : L1.length = L0.length + π.length)
    (hex : exK (sg L0.length π) (born (lh L1)) L L0 0 L1) (hinj : injOk (List.range L0.length ++ π) (L1.map kindOf) = true) : exitP L0 R r L := ⟨π, r0, L1, hR, hr, hok, hl, hex, hinj⟩
end
end Go.Proofs.Ytbfefpkhalegmaa

set_option linter.unusedVariables false
set_option linter.unusedSimpArgs false
namespace Go.Proofs.Ytbfefpkhalegmaa
open Go

/-- What stays as it is where an operation may write: all objects below a number; some cells. -/
inductive Keep where
  | below (n : Nat)
  | cells (l : List (Nat × Nat))
  | val (v : AV)          -- of a call: it is handed plain values and gives this one
  | fresh (n : Nat)       -- all below a number; no object becomes one that is read alone
/-- What is read alone in the first stands in the second. -/
def roSub : List AObj → List AObj → Prop
  | [], _ => True
  | .ro cs e :: L', L => L[0]? = some (.ro cs e) ∧ roSub L' L.tail
  | _ :: L', L => roSub L' L.tail
def elemO : AObj → Nat | .own _ e => e + 1 | .ro _ e => e + 1 | _ => 0
def sameK (k : Keep) (L L' : List AObj) : Prop := match k with
  | .below n => L'.take n = L.take n
  | .cells l => ∀ c ∈ l, (lh L' c.1).cells[c.2]? = (lh L c.1).cells[c.2]? ∧ elemO (lh L' c.1) = elemO (lh L c.1)
  | .val _ => False
  | .fresh n => L'.take n = L.take n ∧ roSub (L'.drop n) (L.drop n)
/-- Cells i, off .. off + n - 1 stay. -/
def covK (k : Keep) (i off n : Nat) : Prop := match k with
  | .below m => i < m
  | .cells l => 0 < n ∧ ∀ j, j < n → (i, off + j) ∈ l
  | .val _ => False
  | .fresh m => i < m

inductive Cl where | r | l | w
def clOf : Op → Cl
  | .move _ | .assign _ | .pick .. | .build .. | .nilCheck _ | .binOp .. | .unOp .. | .convert .. | .fieldAddr .. | .field .. | .indexAddr .. | .index .. | .extract .. | .makeFunc .. => .r
  | .call { callee := .builtin .len, .. } | .call { callee := .builtin .min, .. } | .call { callee := .builtin .max, .. } => .r
  | .load .. | .slice .. => .l
  | _ => .w

/-- A conversion that reads memory is marked by a value of its own. -/
def clK (k : Keep) (op : Op) : Cl := match op with
  | .call { callee := .value _, .. } => (match k with | .val _ => .r | _ => .w)
  | .convert .. => (match k with | .val _ => .l | _ => .r)
  | op => clOf op
/-- A call that is handed plain values and gives one. -/
def pureK (P : Program) (f : FuncId) (args : List AV) (v : AV) (q : Prop) (_ : Bx q := .mk) : Prop := (LCall P f args [] fun r L => r = v ∧ L = []) ∧ plainVs args = true ∧ plainV v = true ∧ q
theorem pureK_of {P : Program} {f : FuncId} {args : List AV} {v : AV} {q : Prop} (c : LCall P f args [] fun r L => r = v ∧ L = []) (ha : plainVs args = true) (hv : plainV v = true) (h : q) : pureK P f args v q := ⟨c, ha, hv, h⟩
def vcallK (P : Program) (f : AV) (args : List AV) (v : AV) (q : Prop) (_ : Bx q := .mk) : Prop := fnK f fun fid caps => pureK P fid (args ++ caps) v q
theorem vcallK_fn (P : Program) (f : FuncId) (caps args : List AV) (v : AV) (q : Prop) : vcallK P (.fn (.func f) caps) args v q = pureK P f (args ++ caps) v q := nrf rfl
def valK (k : Keep) (no : Prop) (yes : AV → Prop) (_ : Bx no := .mk) (_ : Bx yes := .mk) : Prop := match k with | .val v => yes v | _ => no
theorem valK_val (v : AV) (no : Prop) (yes : AV → Prop) : valK (.val v) no yes = yes v := nrf rfl
theorem valK_below (n : Nat) (no : Prop) (yes : AV → Prop) : valK (.below n) no yes = no := nrf rfl
theorem valK_cells (l : List (Nat × Nat)) (no : Prop) (yes : AV → Prop) : valK (.cells l) no yes = no := nrf rfl
theorem valK_fresh (n : Nat) (no : Prop) (yes : AV → Prop) : valK (.fresh n) no yes = no := nrf rfl
def aopV (P : Program) (T : TyTab) (k : Keep) (op : Op) (fr : List AV) (L : List AObj) (K : AV → List AObj → Prop) : Prop := match op with
  | .call { callee := .value f, args, argTypes } => valK k (aop P T (.call { callee := .value f, args, argTypes }) fr L K) fun v => vcallK P (ev fr f) (args.toList.map (ev fr)) v (K v L)
  | .convert s t x => astep T (.convert s t x) fr L K
  | op => aop P T op fr L K

/-- An object stays whole. -/
def covW (k : Keep) (i : Nat) : Prop := match k with | .below m => i < m | .fresh m => i < m | _ => False
/-- What a reading operation must be sure of, beside writers that may come before or behind it. -/
def covO (T : TyTab) (op : Op) (fr : List AV) (k : Keep) : Prop := match op with
  | .load t x => optK (T t) fun ti => ptrK (ev fr x) fun i off => covK k i off (if ti.k.isAgg then ti.size else 1)
  | .slice _ x _ _ _ => slK (ev fr x) (fun i _ _ => covK k i 0 1) True True
  | .convert _ _ x => slK (ev fr x) (fun i _ _ => covW k i) True True
  | _ => True
def covs (T : TyTab) (op : Op) (fr : List AV) (kp : Nat → Keep) : List Nat → Prop
  | [] => True
  | j :: js => covO T op fr (kp j) ∧ covs T op fr kp js

def dop (P : Program) (T : TyTab) (us : Nat → List Nat) (kp : Nat → Keep) (i : Nat) (op : Op) (fr : List AV) (L : List AObj) (K : AV → List AObj → Prop) : Prop :=
  match clK (kp i) op with
  | .r => aopV P T (kp i) op fr L K
  | .l => chk (covs T op fr kp (us i)) (aop P T op fr L K)
  | .w => aop P T op fr L fun v L' => chk (sameK (kp i) L L') (K v L')

def DOps (P : Program) (T : TyTab) (all : List Oper) (us : Nat → List Nat) (kp : Nat → Keep) : List (Nat × Oper) → (List AV → List AObj → Prop) → List AV → List AObj → Prop
  | [], N, fr, L => N fr L
  | (i, o) :: rest, N, fr, L => gdK all o.guard fr (dop P T us kp i o.op fr L fun v L' => DOps P T all us kp rest N (putA fr o.dst v) L') (DOps P T all us kp rest N (putA fr o.dst (.tup [])) L)

/-! ### What an operation looks at -/
def opdsEv (op : Op) (fr fr' : List AV) : Prop := ∀ x ∈ op.operands, ev fr x = ev fr' x

section
variable {P : Program} {T : TyTab} {fr fr' : List AV} {L L' : List AObj} {K K' : AV → List AObj → Prop}

theorem map_ev {l : List Operand} (h : ∀ x ∈ l, ev fr x = ev fr' x) : l.map (ev fr) = l.map (ev fr') := List.map_congr_left h
theorem map_parts {l : List (Nat × Operand)} (h : ∀ p ∈ l, ev fr p.2 = ev fr' p.2) : (l.map fun p => (p.1, ev fr p.2)) = l.map fun p => (p.1, ev fr' p.2) := List.map_congr_left fun p hp => by rw [h p hp]
theorem mmGo_ev (m : Bool) : ∀ (xs : List Operand) (k : IntKind) (n : Int) (K : AV → Prop), (∀ x ∈ xs, ev fr x = ev fr' x) → astep.mmGo fr m k n xs K = astep.mmGo fr' m k n xs K
  | [], _, _, _, _ => rfl
  | x :: xs, k, n, K, h => by
    simp only [astep.mmGo]
    rw [h x (List.mem_cons_self ..)]
    congr 1
    funext k' y
    exact mmGo_ev m xs _ _ K (fun z hz => h z (List.mem_cons_of_mem _ hz))
theorem mm_ev (m : Bool) (xs : List Operand) (K : AV → Prop) (h : ∀ x ∈ xs, ev fr x = ev fr' x) : astep.mm fr m xs K = astep.mm fr' m xs K := by
  cases xs with
  | nil => rfl
  | cons x xs =>
    simp only [astep.mm]
    rw [h x (List.mem_cons_self ..)]
    congr 1
    funext k' y
    exact mmGo_ev m xs _ _ K (fun z hz => h z (List.mem_cons_of_mem _ hz))

theorem aop_ev (op : Op) (h : opdsEv op fr fr') : aop P T op fr L K = aop P T op fr' L K := by
  unfold opdsEv at h
  cases op with
  | move x => simp only [aop, astep]; rw [h x (by simp [Op.operands])]
  | assign x => simp only [aop, astep]; rw [h x (by simp [Op.operands])]
  | pick c a b => simp only [aop, astep]; rw [h c (by simp [Op.operands]), h a (by simp [Op.operands]), h b (by simp [Op.operands])]
  | alloc t => rfl
  | box t x => simp only [aop, astep]; rw [h x (by simp [Op.operands])]
  | build t parts => simp only [aop, astep]; rw [map_parts (fun p hp => h p.2 (by simp [Op.operands]; exact ⟨p.1, by simpa using hp⟩))]
  | buildSlice t n parts => simp only [aop, astep]; rw [map_parts (fun p hp => h p.2 (by simp [Op.operands]; exact ⟨p.1, by simpa using hp⟩))]
  | load t x => simp only [aop, astep]; rw [h x (by simp [Op.operands])]
  | store t x y => simp only [aop, astep]; rw [h x (by simp [Op.operands]), h y (by simp [Op.operands])]
  | nilCheck x => simp only [aop, astep]; rw [h x (by simp [Op.operands])]
  | binOp op t x y t' => simp only [aop]; rw [h x (by simp [Op.operands]), h y (by simp [Op.operands])]
  | unOp op t x => simp only [aop, astep]; rw [h x (by simp [Op.operands])]
  | convert s t x => simp only [aop]; rw [h x (by simp [Op.operands])]
  | makeFunc f first caps => simp only [aop, astep]; rw [map_ev (fun x hx => h x (by simp [Op.operands]; right; simpa using hx))]
  | makeSlice t x y => simp only [aop, astep]; rw [h x (by simp [Op.operands]), h y (by simp [Op.operands])]
  | slice t x lo hi mx =>
    cases mx with
    | some m => rfl
    | none =>
      simp only [aop, astep]
      rw [h x (by simp [Op.operands])]
      have hlo : ∀ d f, bndK fr lo d f = bndK fr' lo d f := by
        intro d f; cases lo with
        | none => rfl
        | some y => simp only [bndK]; rw [h y (by simp [Op.operands])]
      have hhi : ∀ d f, bndK fr hi d f = bndK fr' hi d f := by
        intro d f; cases hi with
        | none => rfl
        | some y => simp only [bndK]; rw [h y (by simp [Op.operands])]
      simp only [hlo, hhi]
  | fieldAddr t x f => simp only [aop, astep]; rw [h x (by simp [Op.operands])]
  | field t x f => simp only [aop, astep]; rw [h x (by simp [Op.operands])]
  | indexAddr t x ix => simp only [aop, astep]; rw [h x (by simp [Op.operands]), h ix (by simp [Op.operands])]
  | index t x ix => simp only [aop, astep]; rw [h x (by simp [Op.operands]), h ix (by simp [Op.operands])]
  | extract x n => simp only [aop, astep]; rw [h x (by simp [Op.operands])]
  | call c =>
    obtain ⟨callee, args, ats⟩ := c
    have hargs : ∀ x ∈ args.toList, ev fr x = ev fr' x := fun x hx => h x (by simp [Op.operands, Call.operands]; right; simpa using hx)
    cases callee with
    | value f => simp only [aop]; rw [h f (by simp [Op.operands, Call.operands]), map_ev hargs]
    | invoke r m => rfl
    | builtin b =>
      have h0 : ∀ (i : Nat) (x : Operand), args.toList[i]? = some x → ev fr x = ev fr' x := fun i x hx => hargs x (List.mem_of_getElem? hx)
      cases b <;> first | rfl | skip
      case append =>
        simp only [aop, astep]
        congr 1
        cases h1 : args.toList[0]? with
        | none => rfl
        | some x =>
          cases h2 : args.toList[1]? with
          | none => rfl
          | some y => simp only [optK]; rw [h0 0 x h1, h0 1 y h2]
      case len =>
        simp only [aop, astep]
        cases h1 : args.toList[0]? with
        | none => rfl
        | some x => simp only [optK]; rw [h0 0 x h1]
      case max => simp only [aop, astep]; exact mm_ev _ _ _ hargs
      case min => simp only [aop, astep]; exact mm_ev _ _ _ hargs
  | _ => rfl
theorem aopV_ev (k : Keep) (op : Op) (h : opdsEv op fr fr') : aopV P T k op fr L K = aopV P T k op fr' L K := by
  have h0 := aop_ev (P := P) (T := T) (L := L) (K := K) op h
  unfold aopV
  split
  · rename_i f args ats
    rw [h0]
    unfold opdsEv at h
    have hargs : ∀ x ∈ args.toList, ev fr x = ev fr' x := fun x hx => h x (by simp [Op.operands, Call.operands]; right; simpa using hx)
    rw [h f (by simp [Op.operands, Call.operands]), map_ev hargs]
  · rename_i s t x
    unfold opdsEv at h
    simp only [astep]; rw [h x (by simp [Op.operands])]
  · exact h0
theorem clK_w {k : Keep} {op : Op} (h : clK k op = .w) : clOf op = .w := by
  unfold clK at h
  split at h
  · rfl
  · split at h <;> cases h
  · exact h
theorem clK_l {k : Keep} {op : Op} (h : clK k op = .l) : clOf op = .l ∨ ∃ s t x, op = .convert s t x := by
  unfold clK at h
  split at h
  · split at h <;> cases h
  · exact .inr ⟨_, _, _, rfl⟩
  · exact .inl h
/-- A pure call, as a call. -/
theorem aopV_aop {k : Keep} {op : Op} (hc : clK k op = .r) (h : aopV P T k op fr L K) : aop P T op fr L K := by
  unfold aopV at h
  split at h
  · rename_i f args ats
    cases k with
    | val v =>
      rw [valK_val] at h
      unfold vcallK at h
      obtain ⟨fid, caps, hf, c, ha, hv, hK⟩ := fnK_ex h
      simp only [aop]
      rw [hf, fnK_fn]
      exact callK_pure c ha hv hK
    | _ => simp [clK] at hc
  · rename_i s t x
    simp only [astep] at h
    simp only [aop, acv]
    obtain ⟨si, hs, k1⟩ := optK_ex h
    obtain ⟨ti, ht, k2⟩ := optK_ex k1
    rw [hs, ht, optK_some, optK_some]
    split at k2
    · rename_i k' k hsi hti; rw [hsi, hti]; exact k2
    · exact k2.elim
  · exact h
end
end Go.Proofs.Ytbfefpkhalegmaa

set_option linter.unusedVariables false
set_option linter.unusedSimpArgs false
namespace Go.Proofs.Ytbfefpkhalegmaa
open Go

section
variable {P : Program} {T : TyTab} {fr fr' : List AV} {L L' : List AObj} {K K' : AV → List AObj → Prop}

/-- A continuation that is handed exactly one value. -/
def One (F : (AV → Prop) → Prop) : Prop := ∀ K, F K → ∃ v, ∀ K', F K' ↔ K' v
theorem One_pure (v : AV) : One (fun K => K v) := fun K h => ⟨v, fun K' => Iff.rfl⟩
theorem One_false : One (fun _ => False) := fun K h => h.elim
theorem One_of_iff {F G : (AV → Prop) → Prop} (h : ∀ K, F K ↔ G K) (hg : One G) : One F := fun K hk => by
  obtain ⟨v, hv⟩ := hg K ((h K).1 hk)
  exact ⟨v, fun K' => (h K').trans (hv K')⟩
theorem One_chk {p : Prop} {F : (AV → Prop) → Prop} (h : p → One F) : One (fun K => chk p (F K)) := fun K hk => by
  obtain ⟨v, hv⟩ := h hk.1 K hk.2
  exact ⟨v, fun K' => ⟨fun h' => (hv K').1 h'.2, fun h' => ⟨hk.1, (hv K').2 h'⟩⟩⟩
theorem One_optK {α : Type} {o : Option α} {F : α → (AV → Prop) → Prop} (h : ∀ x, One (F x)) : One (fun K => optK o fun x => F x K) := by
  cases o with
  | none => exact One_false
  | some x => exact h x
theorem One_optV {o : Option AV} : One (fun K => optK o K) := by
  cases o with
  | none => exact One_false
  | some x => exact One_pure x
theorem One_intK {v : AV} {F : IntKind → Int → (AV → Prop) → Prop} (h : ∀ k n, One (F k n)) : One (fun K => intK v fun k n => F k n K) := by
  cases v <;> first | exact h _ _ | exact One_false
theorem One_boolK {v : AV} {F : Bool → (AV → Prop) → Prop} (h : ∀ b, One (F b)) : One (fun K => boolK v fun b => F b K) := by
  cases v <;> first | exact h _ | exact One_false
theorem One_ptrK {v : AV} {F : Nat → Nat → (AV → Prop) → Prop} (h : ∀ i o, One (F i o)) : One (fun K => ptrK v fun i o => F i o K) := by
  cases v <;> first | exact h _ _ | exact One_false
theorem One_aggK {v : AV} {F : List AV → (AV → Prop) → Prop} (h : ∀ cs, One (F cs)) : One (fun K => aggK v fun cs => F cs K) := by
  cases v <;> first | exact h _ | exact One_false
theorem One_tupK {v : AV} {F : List AV → (AV → Prop) → Prop} (h : ∀ cs, One (F cs)) : One (fun K => tupK v fun cs => F cs K) := by
  cases v <;> first | exact h _ | exact One_false
theorem One_slK {v : AV} {F : Nat → Nat → Nat → (AV → Prop) → Prop} {G H : (AV → Prop) → Prop} (h : ∀ i o l, One (F i o l)) (hg : One G) (hh : One H) : One (fun K => slK v (fun i o l => F i o l K) (G K) (H K)) := by
  cases v <;> first | exact h _ _ _ | exact hg | exact hh | exact One_false
theorem One_slT {k : TK} {F : TypeId → (AV → Prop) → Prop} (h : ∀ e, One (F e)) : One (fun K => slT k fun e => F e K) := by
  cases k <;> first | exact h _ | exact One_false
theorem One_loadK {cs : List AV} {off n : Nat} {b : Bool} : One (fun K => loadK cs off b n K) := by
  cases b
  · exact One_optV
  · exact One_chk fun _ => One_pure _
theorem One_bndK {x : Option Operand} {d : Int} {F : Int → (AV → Prop) → Prop} (h : ∀ n, One (F n)) : One (fun K => bndK fr x d fun n => F n K) := by
  cases x with
  | none => exact h d
  | some x => exact One_intK fun _ n => h n
theorem One_ibin (op : BinOp) (k : IntKind) (a b : Int) : One (fun K => ibin op k a b K) := by
  cases op <;> first | exact One_pure _ | exact One_chk fun _ => One_pure _ | exact One_false
theorem One_sbin (op : BinOp) (a b : ByteArray) : One (fun K => sbin op a b K) := by
  cases op <;> first | exact One_pure _ | exact One_false
theorem One_eqT (op : BinOp) (r : Bool) : One (fun K => eqT op r K) := by
  cases op <;> first | exact One_pure _ | exact One_false
theorem One_abin (op : BinOp) (x y : AV) : One (fun K => abin op x y K) := by
  unfold abin
  split
  · rename_i k a k' b
    by_cases h : isSh op = true ∨ k = k'
    · exact One_of_iff (fun K => by rw [if_pos h]) (One_ibin op k a b)
    · exact One_of_iff (fun K => by rw [if_neg h]) One_false
  · exact One_sbin _ _ _
  · exact One_false
theorem One_abin2 (op : BinOp) (t : TypeId) (x y : AV) : One (fun K => abin2 T op t x y K) := by
  unfold abin2
  split
  · exact One_optK fun ti => by split <;> first | exact One_eqT _ _ | exact One_false
  · exact One_optK fun ti => by split <;> first | exact One_eqT _ _ | exact One_false
  · exact One_optK fun ti => by split <;> first | exact One_eqT _ _ | exact One_false
  · exact One_abin _ _ _
theorem One_abin3 (op : BinOp) (t : TypeId) (x y : AV) : One (fun K => abin3 P T op t x y K) := by
  unfold abin3
  split
  · exact One_chk fun _ => One_optK fun r => One_eqT _ _
  · exact One_abin2 _ _ _ _
theorem One_aun (op : UnOp) (x : AV) : One (fun K => aun op x K) := by
  unfold aun
  split <;> first | exact One_pure _ | exact One_false
theorem One_nilK (v : AV) : One (fun K => nilK v K) := by
  cases v <;> first | exact One_pure _ | exact One_false
theorem One_mmGo (m : Bool) : ∀ (xs : List Operand) (k : IntKind) (n : Int), One (fun K => astep.mmGo fr m k n xs K)
  | [], k, n => One_pure _
  | x :: xs, k, n => One_intK fun _ y => One_mmGo m xs _ _
theorem One_mm (m : Bool) (xs : List Operand) : One (fun K => astep.mm fr m xs K) := by
  cases xs with
  | nil => exact One_false
  | cons x xs => exact One_intK fun k n => One_mmGo m xs k n
theorem One_aggParts (ti : TI) (parts : List (Nat × AV)) : One (fun K => aggParts T ti parts fun cs => K (.agg cs)) := by
  unfold aggParts
  split
  · exact One_optK fun cs => One_pure _
  · exact One_optK fun te => One_optK fun cs => One_pure _
  · exact One_false

/-- Operations that only reckon: one value, whatever the memory. -/
def aopR (P : Program) (T : TyTab) (op : Op) (fr : List AV) (L : List AObj) (K : AV → List AObj → Prop) : Prop := match op with | .convert s t x => astep T (.convert s t x) fr L K | op => aop P T op fr L K
theorem value_r (op : Op) (hc : clOf op = .r) (h : aopR P T op fr L K) : ∃ v, ∀ L' K', aopR P T op fr L' K' ↔ K' v L' := by
  have fin : ∀ (F : (AV → Prop) → Prop), One F → (∀ L' K', aopR P T op fr L' K' ↔ F fun v => K' v L') → ∃ v, ∀ L' K', aopR P T op fr L' K' ↔ K' v L' := by
    intro F hF he
    obtain ⟨v, hv⟩ := hF _ ((he L K).1 h)
    exact ⟨v, fun L' K' => (he L' K').trans (hv _)⟩
  cases op <;> first | (simp [clOf] at hc; done) | skip
  case move x => exact fin _ (One_pure _) fun L' K' => Iff.rfl
  case assign x => exact fin _ (One_pure _) fun L' K' => Iff.rfl
  case pick c a b => exact fin _ (One_boolK (F := fun t K => K (pickv t (ev fr a) (ev fr b))) fun t => One_pure _) fun L' K' => Iff.rfl
  case build t parts => exact fin _ (One_optK (F := fun ti K => aggParts T ti (parts.toList.map fun p => (p.1, ev fr p.2)) fun cs => K (.agg cs)) fun ti => One_aggParts ti _) fun L' K' => Iff.rfl
  case nilCheck x => exact fin _ (One_nilK _) fun L' K' => Iff.rfl
  case binOp op t x y t' => exact fin _ (One_abin3 _ _ _ _) fun L' K' => Iff.rfl
  case unOp op t x => exact fin _ (One_aun _ _) fun L' K' => Iff.rfl
  case convert s t x =>
    refine fin (fun K => optK (T s) fun si => optK (T t) fun ti => match si.k, ti.k with
      | .int _, .int k => intK (ev fr x) fun _ n => K (.int k (k.wrap n))
      | _, _ => False) ?_ fun L' K' => Iff.rfl
    exact One_optK fun si => One_optK fun ti => by split <;> first | exact One_intK fun _ n => One_pure _ | exact One_false
  case fieldAddr t x f =>
    refine fin (fun K => optK (T t) fun ti => match ti.k with
      | .struct fs => ptrK (ev fr x) fun i off => optK fs[f]? fun fd => chk (fd.2.2 ≠ 0) (K (.ptr i (off + fd.1)))
      | _ => False) ?_ fun L' K' => Iff.rfl
    exact One_optK fun ti => by split <;> first | exact One_ptrK fun i o => One_optK fun fd => One_chk fun _ => One_pure _ | exact One_false
  case field t x f =>
    refine fin (fun K => optK (T t) fun ti => match ti.k with
      | .struct fs => aggK (ev fr x) fun cs => optK fs[f]? fun fd => optK (T fd.2.1) fun tf => loadK cs fd.1 tf.k.isAgg tf.size fun v => K v
      | _ => False) ?_ fun L' K' => Iff.rfl
    exact One_optK fun ti => by split <;> first | exact One_aggK fun cs => One_optK fun fd => One_optK fun tf => One_loadK | exact One_false
  case indexAddr t x ix =>
    refine fin (fun K => optK (T t) fun ti => intK (ev fr ix) fun _ n => match ti.k with
      | .slice e => optK (T e) fun te => slK (ev fr x) (fun i off len => chk (0 ≤ n ∧ n < len) (K (.ptr i (off + n.toNat * te.size)))) False False
      | .arr m e => optK (T e) fun te => ptrK (ev fr x) fun i off => chk (0 ≤ n ∧ n < m) (K (.ptr i (off + n.toNat * te.size)))
      | _ => False) ?_ fun L' K' => Iff.rfl
    exact One_optK fun ti => One_intK fun _ n => by
      split <;> first | exact One_optK fun te => One_slK (fun i o l => One_chk fun _ => One_pure _) One_false One_false | exact One_optK fun te => One_ptrK fun i o => One_chk fun _ => One_pure _ | exact One_false
  case index t x ix =>
    refine fin (fun K => optK (T t) fun ti => intK (ev fr ix) fun _ n => match ti.k with
      | .arr m e => optK (T e) fun te => aggK (ev fr x) fun cs => chk (0 ≤ n ∧ n < m) (loadK cs (n.toNat * te.size) te.k.isAgg te.size fun v => K v)
      | _ => False) ?_ fun L' K' => Iff.rfl
    exact One_optK fun ti => One_intK fun _ n => by
      split <;> first | exact One_optK fun te => One_aggK fun cs => One_chk fun _ => One_loadK | exact One_false
  case extract x n => exact fin _ (One_tupK (F := fun vs K => optK vs[n]? K) fun vs => One_optV) fun L' K' => Iff.rfl
  case makeFunc f first caps =>
    by_cases h0 : first.size = 0
    · exact fin _ (One_pure (.fn f (caps.toList.map (ev fr)))) fun L' K' => by simp [aopR, aop, astep, h0]
    · simp [aopR, aop, astep, h0] at h
  case call c =>
    obtain ⟨callee, args, ats⟩ := c
    cases callee with
    | value f => simp [clOf] at hc
    | invoke r m => simp [clOf] at hc
    | builtin b =>
      cases b <;> first | (simp [clOf] at hc; done) | skip
      case len =>
        refine fin (fun K => optK args.toList[0]? fun x => optK ats.toList[0]? fun t => optK (T t) fun ti =>
          match ti.k with
          | .slice _ => slK (ev fr x) (fun _ _ len => K (.int .i64 len)) (K (.int .i64 0)) (K (.int .i64 0))
          | .arr n _ => K (.int .i64 n)
          | .str => match ev fr x with | .str s => K (.int .i64 s.size) | _ => False
          | _ => False) ?_ fun L' K' => Iff.rfl
        exact One_optK fun x => One_optK fun t => One_optK fun ti => by
          split <;> first | exact One_slK (fun i o l => One_pure _) (One_pure _) (One_pure _) | exact One_pure _ | (split <;> first | exact One_pure _ | exact One_false) | exact One_false
      case max => exact fin _ (One_mm _ _) fun L' K' => Iff.rfl
      case min => exact fin _ (One_mm _ _) fun L' K' => Iff.rfl
theorem value_rV (k : Keep) (op : Op) (hc : clK k op = .r) (h : aopV P T k op fr L K) : ∃ v, ∀ L' K', aopV P T k op fr L' K' ↔ K' v L' := by
  unfold clK at hc
  split at hc
  · rename_i f args ats
    cases k with
    | val v =>
      simp only [aopV, valK_val, vcallK] at h ⊢
      obtain ⟨fid, caps, hf, c, ha, hv, hK⟩ := fnK_ex h
      refine ⟨v, fun L' K' => ?_⟩
      rw [hf, fnK_fn]
      exact ⟨fun h => h.2.2.2, fun h => ⟨c, ha, hv, h⟩⟩
    | _ => simp at hc
  · rename_i s t x
    obtain ⟨v, hv⟩ := value_r (P := P) (T := T) (.convert s t x) rfl (show aopR P T (.convert s t x) fr L K from h)
    exact ⟨v, fun L' K' => hv L' K'⟩
  · rename_i hno hnc0
    have e : ∀ L' K', aopV P T k op fr L' K' = aopR P T op fr L' K' := by
      intro L' K'
      unfold aopV
      split
      · exact (hno _ _ _ rfl).elim
      · rfl
      · rename_i hnc; unfold aopR; split
        · exact (hnc _ _ _ rfl).elim
        · rfl
    rw [e] at h
    obtain ⟨v, hv⟩ := value_r op hc h
    exact ⟨v, fun L' K' => by rw [e]; exact hv L' K'⟩
end
end Go.Proofs.Ytbfefpkhalegmaa

set_option linter.unusedVariables false
set_option linter.unusedSimpArgs false
namespace Go.Proofs.Ytbfefpkhalegmaa
open Go

section
variable {P : Program} {T : TyTab} {fr fr' : List AV} {L L' : List AObj} {K K' : AV → List AObj → Prop}

theorem cellsK_iff {o : AObj} {f : List AV → Prop} : cellsK o f ↔ o.live ∧ f o.cells := by cases o <;> simp [cellsK, AObj.live, AObj.cells]
theorem live_of_get {o : AObj} {j : Nat} {v : AV} (h : o.cells[j]? = some v) : o.live := by cases o <;> simp_all [AObj.cells, AObj.live]

theorem same_cov {k : Keep} {i off n : Nat} (hc : covK k i off n) (hs : sameK k L L' ∨ sameK k L' L) :
    lh L' i = lh L i ∨ (0 < n ∧ (∀ j, j < n → (lh L' i).cells[off + j]? = (lh L i).cells[off + j]?) ∧ elemO (lh L' i) = elemO (lh L i)) := by
  cases k with
  | val v => exact hc.elim
  | below m =>
    left
    have e : L'.take m = L.take m := by rcases hs with h | h; exact h; exact h.symm
    have hi : i < m := hc
    have h1 : (L'.take m)[i]? = (L.take m)[i]? := by rw [e]
    simp only [List.getElem?_take, hi, if_true] at h1
    simp [lh, h1]
  | fresh m =>
    left
    have e : L'.take m = L.take m := by rcases hs with h | h; exact h.1; exact h.1.symm
    have hi : i < m := hc
    have h1 : (L'.take m)[i]? = (L.take m)[i]? := by rw [e]
    simp only [List.getElem?_take, hi, if_true] at h1
    simp [lh, h1]
  | cells l =>
    right
    obtain ⟨hn, hc⟩ := hc
    refine ⟨hn, fun j hj => ?_, ?_⟩
    · rcases hs with h | h
      · exact (h _ (hc j hj)).1
      · exact (h _ (hc j hj)).1.symm
    · rcases hs with h | h
      · exact (h _ (hc 0 hn)).2
      · exact (h _ (hc 0 hn)).2.symm

theorem elemIs_iff {o : AObj} {e : TypeId} : elemIs o e ↔ elemO o = e + 1 := by
  cases o <;> simp [elemIs, elemO]

/-- Operations that read. -/
theorem value_l (op : Op) (hc : clOf op = .l) (h : aop P T op fr L K) :
    ∃ v, (∀ K', aop P T op fr L K' ↔ K' v L) ∧ ∀ k L', covO T op fr k → (sameK k L L' ∨ sameK k L' L) → ∀ K', aop P T op fr L' K' ↔ K' v L' := by
  cases op <;> first | (simp [clOf] at hc; done) | skip
  case load t x =>
    have e : ∀ L' K', aop P T (.load t x) fr L' K' ↔ optK (T t) fun ti => ptrK (ev fr x) fun i off => cellsK (lh L' i) fun cs => loadK cs off ti.k.isAgg ti.size fun v => K' v L' := fun _ _ => Iff.rfl
    rw [e] at h
    obtain ⟨ti, ht, k1⟩ := optK_ex h
    obtain ⟨i, off, hx, k2⟩ := ptrK_ex k1
    have e' : ∀ L' K', aop P T (.load t x) fr L' K' ↔ (lh L' i).live ∧ loadK (lh L' i).cells off ti.k.isAgg ti.size fun v => K' v L' := by
      intro L' K'; rw [e, ht, hx, optK_some, ptrK_ptr]; exact cellsK_iff
    obtain ⟨hl, k3⟩ := cellsK_ex k2
    obtain ⟨v, hv0⟩ := One_loadK _ k3
    have hv : ∀ K', loadK (lh L i).cells off ti.k.isAgg ti.size K' ↔ K' v := hv0
    clear hv0
    refine ⟨v, fun K' => ?_, fun k L' hcov hs K' => ?_⟩
    · rw [e', hv]; simp [hl]
    · rw [e']
      simp only [covO, ht, hx, optK_some, ptrK_ptr] at hcov
      rcases same_cov hcov hs with heq | ⟨hn, hget, _⟩
      · rw [heq, hv]; simp [hl]
      · have hv0 := (hv (fun u => u = v)).2 rfl
        cases ha : ti.k.isAgg with
        | false =>
          rw [ha] at hv0 hget
          simp only [loadK_one, Bool.false_eq_true, if_false] at hv0 hget
          obtain ⟨u, hu, rfl⟩ := optK_ex hv0
          have h0 := hget 0 (by omega)
          simp only [Nat.add_zero] at h0
          rw [loadK_one, h0, hu, optK_some]
          have : (lh L' i).live := live_of_get (h0.trans hu)
          simp [this]
        | true =>
          rw [ha] at hv0 hget hn
          simp only [loadK_agg, if_true] at hv0 hget hn
          obtain ⟨hle, hv1⟩ := hv0
          have hlen : off + ti.size ≤ (lh L' i).cells.length := by
            have h0 := hget (ti.size - 1) (by omega)
            have hg : (lh L i).cells[off + (ti.size - 1)]? = some _ := List.getElem?_eq_getElem (by omega)
            rw [hg] at h0
            have := (List.getElem?_eq_some_iff.1 h0).1
            omega
          have hsl : ((lh L' i).cells.drop off).take ti.size = ((lh L i).cells.drop off).take ti.size := by
            apply List.ext_getElem?
            intro j
            by_cases hj : j < ti.size
            · simp [List.getElem?_take, hj, List.getElem?_drop, hget j hj]
            · simp [List.getElem?_take, hj]
          have hlv : (lh L' i).live := by
            have h0 := hget 0 (by omega)
            have hg : (lh L i).cells[off + 0]? = some _ := List.getElem?_eq_getElem (by omega)
            rw [hg] at h0
            exact live_of_get h0
          rw [loadK_agg, hsl, hv1]
          simp [chk, hlen, hlv]
  case slice t x lo hi mx =>
    cases mx with
    | some m => exact h.elim
    | none =>
      let F := fun (o : Nat → AObj) (K : AV → Prop) => optK (T t) fun ti => slT ti.k fun e => optK (T e) fun te =>
        slK (ev fr x)
          (fun i off len => bndK fr lo 0 fun l => bndK fr hi len fun r => chk (elemIs (o i) e ∧ 0 ≤ l ∧ l ≤ r ∧ r ≤ len) (K (.slice i (off + l.toNat * te.size) (r.toNat - l.toNat))))
          (bndK fr lo 0 fun l => bndK fr hi 0 fun r => chk (l = 0 ∧ r = 0) (K .nilslice))
          (bndK fr lo 0 fun l => bndK fr hi 0 fun r => chk (l = 0 ∧ r = 0) (K .noslice))
      have hF : ∀ L' K', aop P T (.slice t x lo hi none) fr L' K' ↔ F (lh L') fun v => K' v L' := fun _ _ => Iff.rfl
      have hOne : ∀ o, One (F o) := fun o => One_optK fun ti => One_slT fun e => One_optK fun te => One_slK (fun i off len => One_bndK fun l => One_bndK fun r => One_chk fun _ => One_pure _)
        (One_bndK fun l => One_bndK fun r => One_chk fun _ => One_pure _) (One_bndK fun l => One_bndK fun r => One_chk fun _ => One_pure _)
      rw [hF] at h
      obtain ⟨v, hv⟩ := hOne (lh L) (fun v => K v L) h
      refine ⟨v, fun K' => (hF _ _).trans (hv fun v => K' v L), fun k L' hcov hs K' => ?_⟩
      rw [hF]
      have : ∀ K, F (lh L') K ↔ F (lh L) K := by
        intro K
        simp only [F]
        cases hx : ev fr x with
        | slice i o l =>
          simp only [covO, hx, slK_slice] at hcov
          have he : ∀ e, elemIs (lh L' i) e ↔ elemIs (lh L i) e := by
            intro e
            rcases same_cov hcov hs with heq | ⟨_, _, heq⟩
            · rw [heq]
            · rw [elemIs_iff, elemIs_iff, heq]
          simp only [slK_slice, he]
        | _ => rfl
      exact (this fun v => K' v L').trans (hv fun v => K' v L')
  case call c =>
    obtain ⟨callee, args, ats⟩ := c
    cases callee with
    | builtin b => cases b <;> simp [clOf] at hc
    | _ => simp [clOf] at hc

/-- A conversion of bytes to a string reads. -/
theorem value_c (s t : TypeId) (x : Operand) (h : aop P T (.convert s t x) fr L K) :
    ∃ v, (∀ K', aop P T (.convert s t x) fr L K' ↔ K' v L) ∧ ∀ k L', covO T (.convert s t x) fr k → (sameK k L L' ∨ sameK k L' L) → ∀ K', aop P T (.convert s t x) fr L' K' ↔ K' v L' := by
  let F := fun (y : AV) (o : Nat → AObj) (K : AV → Prop) => optK (T s) fun si => optK (T t) fun ti => match si.k, ti.k with
    | .int _, .int k => intK y fun _ n => K (.int k (k.wrap n))
    | .slice e, .str => optK (T e) fun te => u8K te.k (slK y (fun i off len => cellsK (o i) fun cs => optK (intsOf ((cs.drop off).take len)) fun ns => chk (ns.length = len) (K (.str (strOfNums ns))))
        (K (.str ByteArray.empty)) (K (.str ByteArray.empty)))
    | _, _ => False
  have hF : ∀ L' K', aop P T (.convert s t x) fr L' K' ↔ F (ev fr x) (lh L') fun v => K' v L' := fun _ _ => Iff.rfl
  have hOne : ∀ y o, One (F y o) := fun y o => One_optK fun si => One_optK fun ti => by
    split
    · exact One_intK fun _ n => One_pure _
    · refine One_optK fun te => ?_
      cases hk : te.k <;> first | exact One_false | skip
      rename_i k
      cases k <;> first | exact One_false | skip
      refine One_slK (fun i off len => ?_) (One_pure _) (One_pure _)
      refine One_of_iff (fun K => cellsK_iff) ?_
      intro K hk
      obtain ⟨hl, hk⟩ := hk
      obtain ⟨v, hv⟩ := One_optK (F := fun ns K => chk (ns.length = len) (K (.str (strOfNums ns)))) (fun ns => One_chk fun _ => One_pure _) K hk
      exact ⟨v, fun K' => ⟨fun h' => (hv K').1 h'.2, fun h' => ⟨hl, (hv K').2 h'⟩⟩⟩
    · exact One_false
  rw [hF] at h
  obtain ⟨v, hv⟩ := hOne _ (lh L) (fun v => K v L) h
  refine ⟨v, fun K' => (hF _ _).trans (hv fun v => K' v L), fun k L' hcov hs K' => ?_⟩
  rw [hF]
  have : ∀ K, F (ev fr x) (lh L') K ↔ F (ev fr x) (lh L) K := by
    intro K
    have hcov' : slK (ev fr x) (fun i _ _ => covW k i) True True := hcov
    generalize ev fr x = y at hcov'
    cases y with
    | slice i o l =>
      have hcw : covW k i := hcov'
      have heq : lh L' i = lh L i := by
        cases k with
        | below m =>
          rcases same_cov (k := .below m) (i := i) (off := 0) (n := 0) hcw hs with h' | h'
          · exact h'
          · exact absurd h'.1 (by omega)
        | fresh m =>
          rcases same_cov (k := .fresh m) (i := i) (off := 0) (n := 0) hcw hs with h' | h'
          · exact h'
          · exact absurd h'.1 (by omega)
        | _ => exact hcw.elim
      have key : ∀ h : Nat → AObj, F (.slice i o l) h K = optK (T s) fun si => optK (T t) fun ti => match si.k, ti.k with
          | .int _, .int k => intK (.slice i o l) fun _ n => K (.int k (k.wrap n))
          | .slice e, .str => optK (T e) fun te => u8K te.k (cellsK (h i) fun cs => optK (intsOf ((cs.drop o).take l)) fun ns => chk (ns.length = l) (K (.str (strOfNums ns))))
          | _, _ => False := fun h => rfl
      rw [key, key, heq]
    | _ => exact Iff.rfl
  exact (this fun v => K' v L').trans (hv fun v => K' v L')
theorem value_lK {k0 : Keep} (op : Op) (hc : clK k0 op = .l) (h : aop P T op fr L K) :
    ∃ v, (∀ K', aop P T op fr L K' ↔ K' v L) ∧ ∀ k L', covO T op fr k → (sameK k L L' ∨ sameK k L' L) → ∀ K', aop P T op fr L' K' ↔ K' v L' := by
  rcases clK_l hc with hc | ⟨s, t, x, rfl⟩
  · exact value_l op hc h
  · exact value_c s t x h

theorem optK_mono {α : Type} {o : Option α} {f g : α → Prop} (h : ∀ x, f x → g x) (hk : optK o f) : optK o g := by cases o <;> first | exact h _ hk | exact hk
theorem chk_mono {p q q' : Prop} (h : q → q') (hk : chk p q) : chk p q' := ⟨hk.1, h hk.2⟩

/-- What writes or makes memory: it leaves something; and a weaker continuation does. -/
theorem news_ex' {y : AV} {te : TI} {k : Nat → List AV → Prop} (h : astep.news y te L k) : ∃ m new, k m new ∧ ∀ k' : Nat → List AV → Prop, k' m new → astep.news y te L k' := by
  rcases slK_ex h with ⟨i, o, len, rfl, k1⟩ | ⟨rfl, k1⟩ | ⟨rfl, k1⟩
  · obtain ⟨hl, hle, k2⟩ := cellsK_ex k1
    refine ⟨_, _, k2, fun k' hk' => ?_⟩
    rw [news_sl]
    exact cellsK_iff.2 ⟨hl, hle, hk'⟩
  · exact ⟨_, _, k1, fun k' hk' => hk'⟩
  · exact ⟨_, _, k1, fun k' hk' => hk'⟩

theorem ACall.monoR {f : FuncId} {args : List AV} {h : Heap} {R R' : AV → Heap → Prop} (hR : ∀ r h', R r h' → R' r h') (c : ACall P f args h R) : ACall P f args h R' := by
  intro ρ w vargs hs hv
  refine Calls.mono (c ρ w vargs hs hv) ?_
  rintro e w' ⟨ρ', r, h', v, h1, h2, h3⟩
  exact ⟨ρ', r, h', v, h1, hR _ _ h2, h3⟩

theorem value_w (op : Op) (hc : clOf op = .w) (h : aop P T op fr L K) : (∃ v L', K v L') ∧ ∀ K' : AV → List AObj → Prop, (∀ v L', K v L' → K' v L') → aop P T op fr L K' := by
  cases op <;> first | (simp [clOf] at hc; done) | exact h.elim | skip
  case alloc t =>
    obtain ⟨ti, ht, k1⟩ := optK_ex (show optK (T t) _ from h)
    exact ⟨⟨_, _, k1⟩, fun K' hK => optK_mono (fun ti k => hK _ _ k) (show optK (T t) _ from h)⟩
  case box t x =>
    have h' : optK (T t) fun ti => chk ((ev fr x).solid = true) (K (.ptr L.length 0) (L ++ [.own (cellsOf (ev fr x)) t])) := h
    obtain ⟨ti, ht, k0, k1⟩ := optK_ex h'
    exact ⟨⟨_, _, k1⟩, fun K' hK => (optK_mono (fun ti k => chk_mono (hK _ _) k) h' : optK (T t) fun ti => chk ((ev fr x).solid = true) (K' (.ptr L.length 0) (L ++ [.own (cellsOf (ev fr x)) t])))⟩
  case buildSlice t n parts =>
    simp only [aop] at h ⊢
    split at h
    case isFalse => exact h.elim
    case isTrue hn =>
    simp only [if_pos hn]
    have h' : optK (T t) fun ti => slT ti.k fun e => optK (T e) fun te =>
      if n = 0 then K .noslice L else
      chk (n * te.size ≤ 16777216 ∧ 0 < te.size) (optK (fillA (fun i => some (i * te.size, te.size)) (List.replicate n te.zero).flatten (parts.toList.map fun p => (p.1, ev fr p.2))) fun cs =>
        K (.slice L.length 0 n) (L ++ [.own cs e])) := h
    obtain ⟨ti, ht, k1⟩ := optK_ex h'
    obtain ⟨e, he, k2⟩ := slT_ex k1
    obtain ⟨te, hte, k3⟩ := optK_ex k2
    have back : ∀ K' : AV → List AObj → Prop, (if n = 0 then K' .noslice L else
      chk (n * te.size ≤ 16777216 ∧ 0 < te.size) (optK (fillA (fun i => some (i * te.size, te.size)) (List.replicate n te.zero).flatten (parts.toList.map fun p => (p.1, ev fr p.2))) fun cs =>
        K' (.slice L.length 0 n) (L ++ [.own cs e]))) → astep T (.buildSlice t n parts) fr L K' := by
      intro K' hk
      simp only [astep, ht, optK_some, he, slT_slice, hte]
      exact hk
    by_cases h0 : n = 0
    · rw [if_pos h0] at k3
      exact ⟨⟨_, _, k3⟩, fun K' hK => back K' (by rw [if_pos h0]; exact hK _ _ k3)⟩
    · rw [if_neg h0] at k3
      obtain ⟨k4, k5⟩ := k3
      obtain ⟨cs, hcs, k6⟩ := optK_ex k5
      exact ⟨⟨_, _, k6⟩, fun K' hK => back K' (by rw [if_neg h0]; exact ⟨k4, by rw [hcs]; exact hK _ _ k6⟩)⟩
  case store t x y =>
    have h' : optK (T t) fun ti => ptrK (ev fr x) fun i off => ownK (lh L i) fun cs e =>
      chk ((cellsOf (ev fr y)).length = ti.size ∧ off + ti.size ≤ cs.length ∧ (cellsOf (ev fr y)).all AV.cell1 = true) (K .junk (L.set i (.own (setCells cs off (cellsOf (ev fr y))) e))) := h
    obtain ⟨ti, ht, k1⟩ := optK_ex h'
    obtain ⟨i, off, hx, k2⟩ := ptrK_ex k1
    obtain ⟨cs, e, ho, k3, k4⟩ := ownK_ex k2
    refine ⟨⟨_, _, k4⟩, fun K' hK => ?_⟩
    show optK (T t) fun ti => ptrK (ev fr x) fun i off => ownK (lh L i) fun cs e => _
    rw [ht, hx, optK_some, ptrK_ptr, ho, ownK_own]
    exact ⟨k3, hK _ _ k4⟩
  case makeSlice t x y =>
    have h' : optK (T t) fun ti => slT ti.k fun e => optK (T e) fun te => intK (ev fr x) fun _ n => intK (ev fr y) fun _ m =>
      chk (0 ≤ n ∧ n = m ∧ n * te.bytes ≤ 281474976710656 ∧ n ≤ 9223372036854775807) (K (.slice L.length 0 n.toNat) (L ++ [.own (List.replicate n.toNat te.zero).flatten e])) := h
    obtain ⟨ti, ht, k1⟩ := optK_ex h'
    obtain ⟨e, he, k2⟩ := slT_ex k1
    obtain ⟨te, hte, k3⟩ := optK_ex k2
    obtain ⟨_, n, hx, k4⟩ := intK_ex k3
    obtain ⟨_, m, hy, k5, k6⟩ := intK_ex k4
    refine ⟨⟨_, _, k6⟩, fun K' hK => ?_⟩
    show optK (T t) fun ti => slT ti.k fun e => optK (T e) fun te => intK (ev fr x) fun _ n => intK (ev fr y) fun _ m => _
    rw [ht, optK_some, he, slT_slice, hte, optK_some, hx, intK_int, hy, intK_int]
    exact ⟨k5, hK _ _ k6⟩
  case call c =>
    obtain ⟨callee, args, ats⟩ := c
    cases callee with
    | invoke r m => exact h.elim
    | value f =>
      obtain ⟨fid, caps, hf, hcb, hinh, hc⟩ := fnK_ex (show fnK (ev fr f) _ from h)
      refine ⟨hinh, fun K' hK => ?_⟩
      show fnK (ev fr f) fun fid caps => _
      rw [hf, fnK_fn]
      obtain ⟨r, L', hr⟩ := hinh
      exact ⟨hcb, ⟨r, L', hK _ _ hr⟩, hc.monoR fun r h' ⟨L', e, hk⟩ => ⟨L', e, hK _ _ hk⟩⟩
    | builtin b =>
      cases b <;> first | (simp [clOf] at hc; done) | exact h.elim | skip
      case append =>
        simp only [aop] at h ⊢
        split at h
        case isFalse => exact h.elim
        case isTrue hn =>
        simp only [if_pos hn]
        have h' : optK args.toList[0]? fun x => optK args.toList[1]? fun y => optK ats.toList[0]? fun t => optK ats.toList[1]? fun t' => optK (T t) fun ti => optK (T t') fun ti' => slT ti'.k fun _ => slT ti.k fun e => optK (T e) fun te =>
          astep.app e te (ev fr x) (ev fr y) L K := h
        obtain ⟨x, hx, k1⟩ := optK_ex h'
        obtain ⟨y, hy, k2⟩ := optK_ex k1
        obtain ⟨t, ht, k3⟩ := optK_ex k2
        obtain ⟨t', ht', k4⟩ := optK_ex k3
        obtain ⟨ti, hti, k5⟩ := optK_ex k4
        obtain ⟨ti', hti', k6⟩ := optK_ex k5
        obtain ⟨e', he', k7⟩ := slT_ex k6
        obtain ⟨e, he, k8⟩ := slT_ex k7
        obtain ⟨te, hte, k9⟩ := optK_ex k8
        have back : ∀ K', astep.app e te (ev fr x) (ev fr y) L K' → astep T (.call { callee := .builtin .append, args := args, argTypes := ats }) fr L K' := by
          intro K' hk
          simp only [astep, hx, hy, ht, ht', optK_some, hti, hti', he', slT_slice, he, hte]
          exact hk
        have key : (∃ v L', K v L') ∧ ∀ K' : AV → List AObj → Prop, (∀ v L', K v L' → K' v L') → astep.app e te (ev fr x) (ev fr y) L K' := by
          rcases slK_ex k9 with ⟨i, o, len, hxe, k10⟩ | ⟨hxe, k10⟩ | ⟨hxe, k10⟩
          · obtain ⟨cs, e1, hown, k11⟩ := ownK_ex k10
            obtain ⟨m, new, ⟨k12, k13⟩, kb⟩ := news_ex' k11
            refine ⟨⟨_, _, k13⟩, fun K' hK => ?_⟩
            rw [hxe, app_sl, hown, ownK_own]
            exact kb _ ⟨k12, hK _ _ k13⟩
          · obtain ⟨m, new, ⟨k12, k13⟩, kb⟩ := news_ex' k10
            refine ⟨⟨_, _, k13⟩, fun K' hK => ?_⟩
            rw [hxe, app_nil]
            exact kb _ ⟨k12, hK _ _ k13⟩
          · obtain ⟨m, new, ⟨k12, k13⟩, kb⟩ := news_ex' k10
            refine ⟨⟨_, _, k13⟩, fun K' hK => ?_⟩
            rw [hxe, app_no]
            exact kb _ ⟨k12, hK _ _ k13⟩
        exact ⟨key.1, fun K' hK => back K' (key.2 K' hK)⟩
end
end Go.Proofs.Ytbfefpkhalegmaa

set_option linter.unusedVariables false
set_option linter.unusedSimpArgs false
namespace Go.Proofs.Ytbfefpkhalegmaa
open Go

section
variable {P : Program} {T : TyTab} {all : List Oper} {us : Nat → List Nat} {kp : Nat → Keep} {fr fr' : List AV} {L L' : List AObj} {K K' : List AV → List AObj → Prop}

def dstep (P : Program) (T : TyTab) (all : List Oper) (us : Nat → List Nat) (kp : Nat → Keep) (i : Nat) (o : Oper) (fr : List AV) (L : List AObj) (K : List AV → List AObj → Prop) : Prop :=
  gdK all o.guard fr (dop P T us kp i o.op fr L fun v L' => K (putA fr o.dst v) L') (K (putA fr o.dst (.tup [])) L)

theorem DOps_cons (i : Nat) (o : Oper) (rest : List (Nat × Oper)) (N : List AV → List AObj → Prop) : DOps P T all us kp ((i, o) :: rest) N fr L = dstep P T all us kp i o fr L (DOps P T all us kp rest N) := rfl

/-- Frames that an operation cannot tell apart. -/
def agr (all : List Oper) (o : Oper) (fr fr' : List AV) : Prop := ∀ t, t ∈ o.looksAt all.toArray → fr.getD t .junk = fr'.getD t .junk

theorem agr.refl (o : Oper) : agr all o fr fr := fun _ _ => rfl
theorem agr.symm {o : Oper} (h : agr all o fr fr') : agr all o fr' fr := fun t ht => (h t ht).symm
theorem agr.opds {o : Oper} (h : agr all o fr fr') : opdsEv o.op fr fr' := by
  intro x hx
  cases x with
  | tmp t =>
    refine h t ?_
    unfold Oper.looksAt
    refine List.mem_append_left _ (List.mem_filterMap.2 ⟨.tmp t, by simpa using hx, rfl⟩)
  | _ => rfl
theorem getD_set_ne' (fr : List AV) {d t : Nat} (v : AV) (h : d ≠ t) : (fr.set d v).getD t .junk = fr.getD t .junk := by
  simp [List.getD, List.getElem?_set_ne h]
theorem agr_put {o : Oper} {dst : Option Tmp} (v : AV) (h : ∀ d, dst = some d → d ∉ o.looksAt all.toArray) : agr all o fr (putA fr dst v) := by
  intro t ht
  cases dst with
  | none => rfl
  | some d => exact (getD_set_ne' fr v (fun e => h d rfl (by rw [e]; exact ht))).symm
theorem putA_comm {d d' : Option Tmp} (v v' : AV) (h : ∀ x, d = some x → d' ≠ some x) : putA (putA fr d v) d' v' = putA (putA fr d' v') d v := by
  cases d <;> cases d' <;> try rfl
  rename_i a b
  have : a ≠ b := fun e => h a rfl (e ▸ rfl)
  exact List.set_comm _ _ this

theorem gdK_agr {o : Oper} (h : agr all o fr fr') (A B : Prop) : gdK all o.guard fr A B = gdK all o.guard fr' A B := by
  unfold gdK
  cases hg : o.guard with
  | none => rfl
  | some g =>
    obtain ⟨j, want⟩ := g
    simp only []
    cases hj : all[j]? with
    | none => rfl
    | some oj =>
      simp only [optK]
      cases hd : oj.dst with
      | none => rfl
      | some d =>
        simp only []
        rw [h d (by unfold Oper.looksAt; refine List.mem_append_right _ ?_; simp [hg, hj, hd])]

theorem gdK_two {g : Option (Nat × Bool)} {A B : Prop} (h : gdK all g fr A B) :
    (A ∧ ∀ A' B' : Prop, gdK all g fr A' B' ↔ A') ∨ (B ∧ ∀ A' B' : Prop, gdK all g fr A' B' ↔ B') := by
  cases g with
  | none => exact .inl ⟨h, fun _ _ => Iff.rfl⟩
  | some g =>
    obtain ⟨j, want⟩ := g
    obtain ⟨oj, hj, k1⟩ := optK_ex h
    obtain ⟨d, hd, k2⟩ := optK_ex k1
    rcases guK_ex k2 with ⟨b, hb, k3⟩ | ⟨hb, k3⟩
    case inr => exact .inr ⟨k3, fun A' B' => by simp only [gdK, hj, optK_some, hd, hb, guK_no]⟩
    cases hbw : b == want with
    | true =>
      rw [hbw, condK_true] at k3
      exact .inl ⟨k3, fun A' B' => by simp only [gdK, hj, optK_some, hd, hb, guK_bool, hbw, condK_true]⟩
    | false =>
      rw [hbw, condK_false] at k3
      exact .inr ⟨k3, fun A' B' => by simp only [gdK, hj, optK_some, hd, hb, guK_bool, hbw, condK_false]⟩

theorem covO_ev (op : Op) (k : Keep) (h : opdsEv op fr fr') : covO T op fr k = covO T op fr' k := by
  cases op <;> try rfl
  case load t x => simp only [covO]; rw [h x (by simp [Op.operands])]
  case slice t x lo hi mx => simp only [covO]; rw [h x (by simp [Op.operands])]
  case convert s t x => simp only [covO]; rw [h x (by simp [Op.operands])]
theorem covs_ev (op : Op) (h : opdsEv op fr fr') : ∀ js, covs T op fr kp js = covs T op fr' kp js
  | [] => rfl
  | j :: js => by simp only [covs, covO_ev op (kp j) h, covs_ev op h js]
theorem covs_mem {op : Op} : ∀ {js : List Nat}, covs T op fr kp js → ∀ j ∈ js, covO T op fr (kp j)
  | [], _, _, hj => by cases hj
  | _ :: _, h, j, hj => by
    rcases List.mem_cons.1 hj with rfl | hj
    · exact h.1
    · exact covs_mem h.2 j hj

theorem dop_ev {i : Nat} {op : Op} {K : AV → List AObj → Prop} (h : opdsEv op fr fr') : dop P T us kp i op fr L K = dop P T us kp i op fr' L K := by
  unfold dop
  split
  · exact aopV_ev _ op h
  · rw [aop_ev op h, covs_ev op h]
  · exact aop_ev op h

/-- Memory that an operation cannot tell from L. -/
def fits (us : Nat → List Nat) (kp : Nat → Keep) (i : Nat) (o : Oper) (L L' : List AObj) : Prop :=
  clK (kp i) o.op = .l → L' = L ∨ ∃ j, j ∈ us i ∧ (sameK (kp j) L L' ∨ sameK (kp j) L' L)
def Vals (P : Program) (T : TyTab) (all : List Oper) (us : Nat → List Nat) (kp : Nat → Keep) (i : Nat) (o : Oper) (fr : List AV) (L : List AObj) (v : AV) : Prop :=
  ∀ fr' L', agr all o fr fr' → fits us kp i o L L' → ∀ K', dstep P T all us kp i o fr' L' K' ↔ K' (putA fr' o.dst v) L'
def Wrts (P : Program) (T : TyTab) (all : List Oper) (us : Nat → List Nat) (kp : Nat → Keep) (i : Nat) (o : Oper) (fr : List AV) (L : List AObj) (K : List AV → List AObj → Prop) : Prop :=
  (aop P T o.op fr L fun v L' => chk (sameK (kp i) L L') (K (putA fr o.dst v) L')) ∧
  ∀ fr', agr all o fr fr' → ∀ K', (aop P T o.op fr L fun v L' => chk (sameK (kp i) L L') (K' (putA fr' o.dst v) L')) → dstep P T all us kp i o fr' L K'

theorem dstep_two {i : Nat} {o : Oper} (h : dstep P T all us kp i o fr L K) : (∃ v, Vals P T all us kp i o fr L v) ∨ (clK (kp i) o.op = .w ∧ Wrts P T all us kp i o fr L K) := by
  rcases gdK_two h with ⟨hA, hg⟩ | ⟨hB, hg⟩
  · have hd : ∀ fr', agr all o fr fr' → ∀ L' K', dstep P T all us kp i o fr' L' K' ↔ dop P T us kp i o.op fr L' fun v L'' => K' (putA fr' o.dst v) L'' := by
      intro fr' ha L' K'
      unfold dstep
      rw [← gdK_agr ha, hg, ← dop_ev ha.opds]
    unfold dop at hA
    cases hc : clK (kp i) o.op with
    | r =>
      rw [hc] at hA
      obtain ⟨v, hv⟩ := value_rV _ o.op hc hA
      refine .inl ⟨v, fun fr' L' ha hf K' => ?_⟩
      rw [hd fr' ha]
      simp only [dop, hc]
      exact hv L' fun v L'' => K' (putA fr' o.dst v) L''
    | l =>
      rw [hc] at hA
      obtain ⟨v, hv, hv'⟩ := value_lK o.op hc hA.2
      refine .inl ⟨v, fun fr' L' ha hf K' => ?_⟩
      rw [hd fr' ha]
      simp only [dop, hc]
      have : (aop P T o.op fr L' fun v L'' => K' (putA fr' o.dst v) L'') ↔ K' (putA fr' o.dst v) L' := by
        rcases hf hc with rfl | ⟨j, hj, hs⟩
        · exact hv fun v L'' => K' (putA fr' o.dst v) L''
        · exact hv' (kp j) L' (covs_mem hA.1 j hj) hs fun v L'' => K' (putA fr' o.dst v) L''
      rw [this]
      simp [chk, hA.1]
    | w =>
      rw [hc] at hA
      refine .inr ⟨rfl, hA, fun fr' ha K' hk => ?_⟩
      rw [hd fr' ha]
      simp only [dop, hc]
      exact hk
  · refine .inl ⟨(.tup []), fun fr' L' ha hf K' => ?_⟩
    unfold dstep
    rw [← gdK_agr ha, hg]

theorem dstep_mono {i : Nat} {o : Oper} (h : dstep P T all us kp i o fr L K) (hk : ∀ fr L, K fr L → K' fr L) : dstep P T all us kp i o fr L K' := by
  rcases dstep_two h with ⟨v, hv⟩ | ⟨hc, hw, hb⟩
  · have e := hv fr L (agr.refl o) (fun _ => .inl rfl)
    exact (e K').2 (hk _ _ ((e K).1 h))
  · exact hb fr (agr.refl o) K' ((value_w o.op (clK_w hc) hw).2 _ fun v L' hx => chk_mono (hk _ _) hx)

def swapOk (all : List Oper) (us : Nat → List Nat) (kp : Nat → Keep) (i : Nat) (oi : Oper) (j : Nat) (oj : Oper) : Bool :=
  oi.apart all.toArray oj && match clK (kp i) oi.op, clK (kp j) oj.op with
  | .w, .w => false
  | .l, .w => (us i).contains j
  | .w, .l => (us j).contains i
  | _, _ => true

theorem swap {i j : Nat} {oi oj : Oper} (hs : swapOk all us kp i oi j oj = true) (h : dstep P T all us kp i oi fr L fun fr1 L1 => dstep P T all us kp j oj fr1 L1 K) :
    dstep P T all us kp j oj fr L fun fr1 L1 => dstep P T all us kp i oi fr1 L1 K := by
  unfold swapOk at hs
  rw [Bool.and_eq_true] at hs
  obtain ⟨hap, hcl⟩ := hs
  obtain ⟨a1, a2, a3⟩ := Oper.apart_spec hap
  rcases dstep_two h with ⟨v, hv⟩ | ⟨hci, hwi, hbi⟩
  · have h1 := (hv fr L (agr.refl oi) (fun _ => .inl rfl) _).1 h
    rcases dstep_two h1 with ⟨u, hu⟩ | ⟨hcj, hwj, hbj⟩
    · have h2 := (hu _ L (agr.refl oj) (fun _ => .inl rfl) _).1 h1
      rw [hu fr L (agr_put v a1).symm (fun _ => .inl rfl)]
      rw [hv _ L (agr_put u a3) (fun _ => .inl rfl)]
      rw [← putA_comm v u a2]
      exact h2
    · refine hbj fr (agr_put v a1).symm _ ((value_w oj.op (clK_w hcj) hwj).2 _ fun u L1 hx => ⟨hx.1, ?_⟩)
      have hf : fits us kp i oi L L1 := fun hl => .inr ⟨j, by simpa [hl, hcj] using hcl, .inl hx.1⟩
      rw [hv _ L1 (agr_put u a3) hf, ← putA_comm v u a2]
      exact hx.2
  · obtain ⟨⟨v0, L0, hk0, h0⟩, hmon⟩ := value_w oi.op (clK_w hci) hwi
    rcases dstep_two h0 with ⟨u, hu⟩ | ⟨hcj, _⟩
    · have hf : ∀ L1, sameK (kp i) L L1 → fits us kp j oj L1 L := fun L1 hk hl => .inr ⟨i, by simpa [hl, hci] using hcl, .inr hk⟩
      have eL : ∀ fr', agr all oj (putA fr oi.dst v0) fr' → ∀ K', dstep P T all us kp j oj fr' L K' ↔ K' (putA fr' oj.dst u) L := fun fr' ha => hu fr' L ha (hf L0 hk0)
      have a0 : agr all oj (putA fr oi.dst v0) fr := (agr_put v0 a1).symm
      rw [eL fr a0]
      refine hbi _ (agr_put u a3) _ (hmon _ fun v L1 hx => ⟨hx.1, ?_⟩)
      obtain ⟨hk1, h1⟩ := hx
      rcases dstep_two h1 with ⟨u1, hu1⟩ | ⟨hcj, _⟩
      · have h2 := (hu1 _ L1 (agr.refl oj) (fun _ => .inl rfl) _).1 h1
        have e1 := hu1 (putA fr oi.dst v) L (agr.refl oj) (hf L1 hk1)
        have a1' : agr all oj (putA fr oi.dst v0) (putA fr oi.dst v) := fun t ht => (a0 t ht).trans (agr_put v a1 t ht)
        have e2 := eL (putA fr oi.dst v) a1'
        have : putA (putA fr oi.dst v) oj.dst u1 = putA (putA fr oi.dst v) oj.dst u :=
          (e1 fun f _ => f = putA (putA fr oi.dst v) oj.dst u).1 ((e2 fun f _ => f = putA (putA fr oi.dst v) oj.dst u).2 rfl)
        rw [this, putA_comm v u a2] at h2
        exact h2
      · rw [hci, hcj] at hcl; cases hcl
    · rw [hci, hcj] at hcl; cases hcl

theorem DOps_front {N : List AV → List AObj → Prop} {i : Nat} {o : Oper} {post : List (Nat × Oper)} : ∀ (pre : List (Nat × Oper)) (fr : List AV) (L : List AObj), (∀ p ∈ pre, swapOk all us kp p.1 p.2 i o = true) →
    DOps P T all us kp (pre ++ (i, o) :: post) N fr L → DOps P T all us kp ((i, o) :: (pre ++ post)) N fr L
  | [], fr, L, _, h => h
  | (k, p) :: pre, fr, L, hs, h => by
    rw [List.cons_append, DOps_cons] at h
    have h1 : dstep P T all us kp k p fr L fun fr1 L1 => dstep P T all us kp i o fr1 L1 (DOps P T all us kp (pre ++ post) N) :=
      dstep_mono h fun fr1 L1 h1 => DOps_front pre fr1 L1 (fun q hq => hs q (List.mem_cons_of_mem _ hq)) h1
    exact swap (hs (k, p) (List.mem_cons_self ..)) h1
end
end Go.Proofs.Ytbfefpkhalegmaa

set_option linter.unusedVariables false
set_option linter.unusedSimpArgs false
namespace Go.Proofs.Ytbfefpkhalegmaa
open Go

theorem St.drew {P : Program} {C : Ctx} {ρ : Nat → Pl} {h : Heap} {fr : List AV} {a : Act} {w : World} (s : St P C ρ h fr a w) (n : Nat) : St P C ρ h fr a { w with drawn := n } :=
  ⟨⟨s.sim.own, s.sim.ro, s.sim.inj⟩, s.fr, s.defers, ⟨s.kept.os, s.kept.tape, s.kept.output, s.kept.size, s.kept.block⟩, s.mine, s.old⟩

/-- The operations with their places. -/
def tag : Nat → List Oper → List (Nat × Oper)
  | _, [] => []
  | k, o :: l => (k, o) :: tag (k + 1) l

def DRun (P : Program) (T : TyTab) (all : List Oper) (us : Nat → List Nat) (kp : Nat → Keep) : Nat → List Oper → (List AV → List AObj → Prop) → List AV → List AObj → Prop
  | _, [], N, fr, L => N fr L
  | i, o :: rest, N, fr, L => gdK all o.guard fr (dop P T us kp i o.op fr L fun v L' => DRun P T all us kp (i + 1) rest N (putA fr o.dst v) L') (DRun P T all us kp (i + 1) rest N (putA fr o.dst (.tup [])) L)

def ancOf (acc : List Nat) : List Edge → Nat
  | [] => 0
  | e :: es => if Region.binds .any e then (ancOf acc es ||| 2 ^ e.on) ||| acc.getD e.on 0 else ancOf acc es
def ancs : List Nat → List Oper → List Nat
  | acc, [] => acc
  | acc, o :: l => ancs (acc ++ [ancOf acc o.after.toList]) l
def planOk (us : Nat → List Nat) (kp : Nat → Keep) (l : List Oper) : Bool :=
  let an := ancs [] l
  (tag 0 l).all fun i => i.2.after.toList.all (fun e => !Region.binds .any e || decide (e.on < i.1)) && (tag 0 l).all fun k => !decide (k.1 < i.1) || (an.getD i.1 0).testBit k.1 || swapOk l us kp k.1 k.2 i.1 i.2

section
variable {P : Program} {T : TyTab} {C : Ctx} {us : Nat → List Nat} {kp : Nat → Keep} {ρ : Nat → Pl} {fr : List AV} {a : Act} {w : World} {L : List AObj}

theorem DRun_eq {all : List Oper} {N : List AV → List AObj → Prop} : ∀ (l : List Oper) (k : Nat) (fr : List AV) (L : List AObj), DRun P T all us kp k l N fr L = DOps P T all us kp (tag k l) N fr L
  | [], k, fr, L => rfl
  | o :: l, k, fr, L => by
    have : ∀ fr L, DRun P T all us kp (k + 1) l N fr L = DOps P T all us kp (tag (k + 1) l) N fr L := fun fr L => DRun_eq l (k + 1) fr L
    simp only [DRun, tag, DOps, this]

theorem mem_tag {l : List Oper} : ∀ {k i : Nat} {o : Oper}, (i, o) ∈ tag k l ↔ k ≤ i ∧ l[i - k]? = some o := by
  induction l with
  | nil => intro k i o; simp [tag]
  | cons p l ih =>
    intro k i o
    simp only [tag, List.mem_cons, ih, Prod.mk.injEq]
    constructor
    · rintro (⟨rfl, rfl⟩ | ⟨h, h'⟩)
      · simp
      · refine ⟨by omega, ?_⟩
        have : i - k = (i - (k + 1)) + 1 := by omega
        rw [this, List.getElem?_cons_succ]; exact h'
    · rintro ⟨h, h'⟩
      by_cases e : i = k
      · subst e; simp at h'; exact .inl ⟨rfl, h'.symm⟩
      · right
        refine ⟨by omega, ?_⟩
        have : i - k = (i - (k + 1)) + 1 := by omega
        rw [this, List.getElem?_cons_succ] at h'; exact h'
theorem tag_sorted : ∀ (l : List Oper) (k : Nat), (tag k l).Pairwise fun p q => p.1 < q.1
  | [], _ => List.Pairwise.nil
  | o :: l, k => List.Pairwise.cons (fun q hq => by obtain ⟨i, p⟩ := q; exact (mem_tag.1 hq).1) (tag_sorted l (k + 1))

theorem ancOf_bit {acc : List Nat} {k : Nat} : ∀ {es : List Edge}, (ancOf acc es).testBit k = true → ∃ e ∈ es, Region.binds .any e = true ∧ (e.on = k ∨ (acc.getD e.on 0).testBit k = true)
  | [], h => by simp [ancOf] at h
  | e :: es, h => by
    simp only [ancOf] at h
    split at h
    · rename_i hb
      rw [Nat.testBit_or, Nat.testBit_or, Bool.or_eq_true, Bool.or_eq_true, Nat.testBit_two_pow] at h
      rcases h with (h | h) | h
      · obtain ⟨e', he, h'⟩ := ancOf_bit h; exact ⟨e', List.mem_cons_of_mem _ he, h'⟩
      · exact ⟨e, List.mem_cons_self .., hb, .inl (by simpa using h)⟩
      · exact ⟨e, List.mem_cons_self .., hb, .inr h⟩
    · obtain ⟨e', he, h'⟩ := ancOf_bit h; exact ⟨e', List.mem_cons_of_mem _ he, h'⟩

/-- All that stands ahead of a place whose predecessors are done is done. -/
theorem ancs_down {D : Nat → Prop} {l : List Oper} (hD : ∀ m o, l[m]? = some o → D m → ∀ e ∈ o.after.toList, Region.binds .any e = true → D e.on) :
    ∀ (l2 l1 : List Oper) (acc : List Nat), l = l1 ++ l2 → acc.length = l1.length →
      (∀ i o, l1[i]? = some o → (∀ e ∈ o.after.toList, Region.binds .any e = true → D e.on) → ∀ k, (acc.getD i 0).testBit k = true → D k) →
      ∀ i o, l[i]? = some o → (∀ e ∈ o.after.toList, Region.binds .any e = true → D e.on) → ∀ k, ((ancs acc l2).getD i 0).testBit k = true → D k
  | [], l1, acc, hl, hlen, hacc => by
    intro i o hi he k hk
    rw [hl, List.append_nil] at hi
    exact hacc i o hi he k hk
  | p :: l2, l1, acc, hl, hlen, hacc => by
    refine ancs_down hD l2 (l1 ++ [p]) (acc ++ [ancOf acc p.after.toList]) (by simp [hl]) (by simp [hlen]) ?_
    intro i o hi he k hk
    by_cases h : i < l1.length
    · rw [List.getElem?_append_left h] at hi
      refine hacc i o hi he k ?_
      rw [List.getD_eq_getElem?_getD, List.getElem?_append_left (by omega)] at hk
      rw [List.getD_eq_getElem?_getD]; exact hk
    · have hi' : i = l1.length := by
        have := (List.getElem?_eq_some_iff.1 hi).1
        simp at this; omega
      subst hi'
      have ho : p = o := by simpa using hi
      subst ho
      have : (acc ++ [ancOf acc p.after.toList]).getD l1.length 0 = ancOf acc p.after.toList := by rw [List.getD_eq_getElem?_getD, ← hlen]; simp
      rw [this] at hk
      obtain ⟨e, hem, hb, hk⟩ := ancOf_bit hk
      rcases hk with rfl | hk
      · exact he e hem hb
      · have hDe := he e hem hb
        by_cases h2 : e.on < l1.length
        · have h3 : l1[e.on]? = some l1[e.on] := List.getElem?_eq_getElem h2
          have h4 : l[e.on]? = some l1[e.on] := by rw [hl, List.getElem?_append_left h2, h3]
          exact hacc e.on _ h3 (hD e.on _ h4 hDe) k hk
        · have : acc.getD e.on 0 = 0 := by rw [List.getD_eq_getElem?_getD, List.getElem?_eq_none (by omega)]; rfl
          rw [this] at hk; simp at hk

theorem dstep_sound (hT : TOk P T) {ops : Array Oper} {Q : Exit → Act → World → Prop} {K : List AV → List AObj → Prop} {next : Act → World → Prop} {i : Nat} {o : Oper} (hi : ops[i]? = some o)
    (s : St P C ρ (lh L) fr a w) (h : dstep P T ops.toList us kp i o fr L K) (hn : ∀ ρ fr L a w, St P C ρ (lh L) fr a w → K fr L → next a w) : wpOp P ops Q i next a w := by
  unfold wpOp
  rw [hi]
  simp only []
  have run : dop P T us kp i o.op fr L (fun v L' => K (putA fr o.dst v) L') → o.wp P a w next Q := by
    intro hk
    have hk' : aop P T o.op fr L fun v L' => K (putA fr o.dst v) L' := by
      unfold dop at hk
      split at hk
      · rename_i hc; exact aopV_aop hc hk
      · exact hk.2
      · rename_i hc; exact (value_w o.op (clK_w hc) hk).2 _ fun v L' hx => hx.2
    exact aop_sound hT s _ hk' fun ρ' v V L' w' s' h' => hn ρ' _ L' _ w' s' h'
  have skip : K (putA fr o.dst (.tup [])) L → next (a.put o.dst undef) w := fun h' => hn ρ _ L _ w (s.put _ (.tup [] [] .nil)) h'
  unfold dstep gdK at h
  cases hg : o.guard with
  | none =>
    rw [hg] at h
    rw [if_pos (by simp [Region.wanted, hg])]
    exact .inl (run h)
  | some g =>
    obtain ⟨j, want⟩ := g
    rw [hg] at h
    simp only [] at h
    obtain ⟨oj, hj, k1⟩ := optK_ex h
    obtain ⟨d, hd, k2⟩ := optK_ex k1
    rcases guK_ex k2 with ⟨b, hb, k3⟩ | ⟨hb, k3⟩
    case inr =>
      rw [if_neg (by simp [Region.wanted, hg, yielded_not s.fr hj hd hb])]
      exact skip k3
    have hy := yielded_of s.fr hj hd hb
    by_cases hbw : b = want
    · subst hbw
      rw [if_pos (by simp [Region.wanted, hg, hy])]
      simp only [beq_self_eq_true, condK_true] at k3
      exact .inl (run k3)
    · rw [if_neg (by simp [Region.wanted, hg, hy, hbw])]
      have : (b == want) = false := by simpa using hbw
      rw [this, condK_false] at k3
      exact skip k3

/-- What is not done yet, in the text's order. -/
def remOf (l : List Oper) (listed : Array Bool) : List (Nat × Oper) := (tag 0 l).filter fun p => !listed.getD p.1 true

theorem remOf_set {l : List Oper} {listed : Array Bool} {i : Nat} {o : Oper} {pre post : List (Nat × Oper)} (hsz : i < listed.size) (hr : remOf l listed = pre ++ (i, o) :: post) :
    remOf l (listed.setIfInBounds i true) = pre ++ post := by
  have hs : (remOf l listed).Pairwise fun p q => p.1 < q.1 := (tag_sorted l 0).filter _
  have e : remOf l (listed.setIfInBounds i true) = (remOf l listed).filter fun p => p.1 != i := by
    unfold remOf
    rw [List.filter_filter]
    apply List.filter_congr
    intro p _
    by_cases h : p.1 = i
    · rw [h]; simp [hsz]
    · rw [getD_set_ne true (Ne.symm h)]
      simp [h]
  rw [e, hr]
  rw [hr, List.pairwise_append] at hs
  obtain ⟨_, h2, h3⟩ := hs
  rw [List.pairwise_cons] at h2
  rw [List.filter_append, List.filter_cons]
  simp only [bne_self_eq_false, Bool.false_eq_true, if_false]
  congr 1
  · apply List.filter_eq_self.2
    intro p hp
    have := h3 p hp (i, o) (List.mem_cons_self ..)
    simp at this ⊢; omega
  · apply List.filter_eq_self.2
    intro p hp
    have := h2.1 p hp
    simp at this ⊢; omega

theorem any_sound (hT : TOk P T) {ops : Array Oper} (hp : planOk us kp ops.toList = true) {Q : List AV → List AObj → Prop} {Q' : Exit → Act → World → Prop}
    (hQ : ∀ ρ fr L a w, St P C ρ (lh L) fr a w → Q fr L → Q' .normal a w) : ∀ (n : Nat) (listed : Array Bool) (ρ : Nat → Pl) (fr : List AV) (L : List AObj) (a : Act) (w : World),
    listed.size = ops.size → (remOf ops.toList listed).length ≤ n →
    (∀ m o, ops.toList[m]? = some o → listed.getD m false = true → ∀ e ∈ o.after.toList, Region.binds .any e = true → listed.getD e.on false = true) →
    St P C ρ (lh L) fr a w → DOps P T ops.toList us kp (remOf ops.toList listed) Q fr L → wpAny P .any ops Q' n listed a w := by
  unfold planOk at hp
  simp only [List.all_eq_true, Bool.and_eq_true, Bool.or_eq_true, Bool.not_eq_true', decide_eq_true_eq, decide_eq_false_iff_not] at hp
  have done : ∀ (listed : Array Bool) (i : Nat) (o : Oper), listed.size = ops.size → ops.toList[i]? = some o → listed.getD i true = false ∨ listed.getD i false = true := by
    intro listed i o hsz ho
    have := (List.getElem?_eq_some_iff.1 ho).1
    have hlt : i < listed.size := by simpa [hsz] using this
    simp [hlt]
  intro n
  induction n with
  | zero =>
    intro listed ρ fr L a w hsz hn hd s h
    have h0 : remOf ops.toList listed = [] := List.eq_nil_of_length_eq_zero (by omega)
    rw [h0] at h
    refine ⟨?_, hQ ρ fr L a w s h⟩
    apply List.eq_nil_iff_forall_not_mem.2
    intro j hj
    obtain ⟨hu, o, ho, _⟩ := mem_ready.1 hj
    have : (j, o) ∈ remOf ops.toList listed := List.mem_filter.2 ⟨mem_tag.2 ⟨Nat.zero_le _, by simpa using ho⟩, by simp only [hu]; rfl⟩
    rw [h0] at this; cases this
  | succ n ih =>
    intro listed ρ fr L a w hsz hn hd s h
    refine ⟨fun hr => ?_, fun i hi => ?_⟩
    · cases hrem : remOf ops.toList listed with
      | nil => rw [hrem] at h; exact hQ ρ fr L a w s h
      | cons p rest =>
        exfalso
        obtain ⟨i, o⟩ := p
        have hmem : (i, o) ∈ remOf ops.toList listed := by rw [hrem]; exact List.mem_cons_self ..
        obtain ⟨hm1, hm2⟩ := List.mem_filter.1 hmem
        have ho := (mem_tag.1 hm1).2
        have hun : listed.getD i true = false := by simpa using hm2
        have : i ∈ Region.ready .any ops listed := by
          refine mem_ready.2 ⟨hun, o, by simpa using ho, fun e he hb => ?_⟩
          have hlt : e.on < i := by
            rcases (hp (i, o) hm1).1 e (by simpa using he) with h' | h'
            · rw [hb] at h'; cases h'
            · exact h'
          have hil := (List.getElem?_eq_some_iff.1 ho).1
          have hoe : ops.toList[e.on]? = some ops.toList[e.on] := List.getElem?_eq_getElem (by omega)
          rcases done listed e.on _ hsz hoe with hu | hu
          · exfalso
            have hme : (e.on, ops.toList[e.on]) ∈ remOf ops.toList listed := List.mem_filter.2 ⟨mem_tag.2 ⟨Nat.zero_le _, by rw [Nat.sub_zero]; exact hoe⟩, by simp only [hu]; rfl⟩
            have hs : (remOf ops.toList listed).Pairwise fun p q => p.1 < q.1 := (tag_sorted ops.toList 0).filter _
            rw [hrem] at hme hs
            rcases List.mem_cons.1 hme with he' | he'
            · have := congrArg Prod.fst he'; simp at this; omega
            · have := (List.pairwise_cons.1 hs).1 _ he'; simp at this; omega
          · exact hu
        rw [hr] at this; cases this
    · obtain ⟨hun, o, ho, hall⟩ := mem_ready.1 hi
      have ho' : ops.toList[i]? = some o := by simpa using ho
      have hm1 : (i, o) ∈ tag 0 ops.toList := mem_tag.2 ⟨Nat.zero_le _, ho'⟩
      have hmem : (i, o) ∈ remOf ops.toList listed := List.mem_filter.2 ⟨hm1, by simp only [hun]; rfl⟩
      obtain ⟨pre, post, hrem⟩ := List.append_of_mem hmem
      have hil : i < listed.size := by have := (List.getElem?_eq_some_iff.1 ho').1; simpa [hsz] using this
      have hset := remOf_set hil hrem
      have hall' : ∀ e ∈ o.after.toList, Region.binds .any e = true → listed.getD e.on false = true := fun e he hb => hall e (by simpa using he) hb
      have hpre : ∀ p ∈ pre, swapOk ops.toList us kp p.1 p.2 i o = true := by
        rintro ⟨k, p⟩ hk
        have hkm : (k, p) ∈ remOf ops.toList listed := by rw [hrem]; exact List.mem_append_left _ hk
        obtain ⟨hk1, hk2⟩ := List.mem_filter.1 hkm
        have hs : (remOf ops.toList listed).Pairwise fun p q => p.1 < q.1 := (tag_sorted ops.toList 0).filter _
        rw [hrem, List.pairwise_append] at hs
        have hlt : k < i := hs.2.2 _ hk _ (List.mem_cons_self ..)
        have hku : listed.getD k true = false := by simpa using hk2
        rcases (hp (i, o) hm1).2 (k, p) hk1 with (h' | h') | h'
        · exact absurd hlt h'
        · exfalso
          have hD := ancs_down (D := fun m => listed.getD m false = true) (l := ops.toList) hd ops.toList [] [] rfl rfl (fun i o hi => by simp at hi) i o ho' hall' k h'
          have hkl : k < listed.size := by omega
          simp [hkl] at hD hku
          rw [hD] at hku; cases hku
        · exact h'
      rw [hrem] at h
      have hf := DOps_front pre fr L hpre h
      rw [DOps_cons] at hf
      refine dstep_sound hT ho s hf fun ρ' fr' L' a' w' s' h' => ?_
      have hlen : (remOf ops.toList listed).length = (pre ++ post).length + 1 := by rw [hrem]; simp; omega
      refine ih (listed.setIfInBounds i true) ρ' fr' L' a' w' (by simpa using hsz) (by rw [hset]; omega) ?_ s' (by rw [hset]; exact h')
      intro m om hom hml e he hb
      by_cases hmi : m = i
      · subst hmi
        rw [ho'] at hom
        cases hom
        exact getD_set_true (hall' e he hb)
      · rw [getD_set_ne false (Ne.symm hmi)] at hml
        exact getD_set_true (hd m om hom hml e he hb)

theorem tag_length : ∀ (l : List Oper) (k : Nat), (tag k l).length = l.length
  | [], _ => rfl
  | _ :: l, k => by simp [tag, tag_length l (k + 1)]

theorem drawK_of (hT : TOk P T) (hm : P.follows .mixedOrders = true) {id : Nat} {ops : Array Oper} {Q : List AV → List AObj → Prop} (us : Nat → List Nat) (kp : Nat → Keep)
    (hp : planOk us kp ops.toList = true) (h : DRun P T ops.toList us kp 0 ops.toList Q fr L) : drawK P C id ops Q fr L := by
  intro ρ a w s
  refine wp_region_any hm ?_
  have hrem : remOf ops.toList (Array.replicate ops.size false) = tag 0 ops.toList := by
    unfold remOf
    apply List.filter_eq_self.2
    rintro ⟨i, o⟩ hi
    have := (List.getElem?_eq_some_iff.1 (mem_tag.1 hi).2).1
    have hlt : i < ops.size := by simpa using this
    simp [hlt]
  refine any_sound hT hp (Q := Q) (fun ρ fr L a w s h => ⟨ρ, fr, L, s, h⟩) ops.size _ ρ fr L a _ (by simp) (by rw [hrem, tag_length]; simp) ?_ (s.drew _) (by rw [hrem, ← DRun_eq]; exact h)
  intro m o ho hml
  have hlt : m < ops.size := by have := (List.getElem?_eq_some_iff.1 ho).1; simpa using this
  simp [hlt] at hml
end
end Go.Proofs.Ytbfefpkhalegmaa

set_option linter.unusedVariables false
set_option linter.unusedSimpArgs false
namespace Go.Proofs.Ytbfefpkhalegmaa
open Go

def leK (σ : Nat → Nat) (B0 : Nat → Prop) (L : List AObj) : Nat → List AObj → Prop
  | j, o :: L1 => (objM σ B0 o (lh L (σ j)) ∧ o.born) ∧ leK σ B0 L (j + 1) L1
  | _, [] => True
/-- The state (fr, L) is told by (fr', L'), where object n0 + i of L' is object π[i] of L. -/
def leR (n0 : Nat) (π : List Nat) (fr : List AV) (L : List AObj) (fr' : List AV) (L' : List AObj) : Prop :=
  leF fr (rens (sg n0 π) fr') ∧ okIns (born (lh L')) fr' ∧ L'.length = n0 + π.length ∧ leK (sg n0 π) (born (lh L')) L 0 L' ∧ injOk (List.range n0 ++ π) (L'.map kindOf) = true

section
variable {P : Program} {T : TyTab} {C : Ctx} {ρ : Nat → Pl} {fr fr' : List AV} {a : Act} {w : World} {L L' : List AObj}

theorem leK_get {σ : Nat → Nat} {B0 : Nat → Prop} : ∀ (L1 : List AObj) (j i : Nat), leK σ B0 L j L1 → i < L1.length → objM σ B0 (lh L1 i) (lh L (σ (j + i))) ∧ (lh L1 i).born
  | o :: L1, j, 0, h, hi => by simpa [lh] using h.1
  | o :: L1, j, i + 1, h, hi => by
    have := leK_get L1 (j + 1) i h.2 (by simpa using hi)
    rw [show j + 1 + i = j + (i + 1) by omega] at this
    simpa [lh] using this
  | [], _, _, _, hi => by simp at hi

theorem St.ren {n0 : Nat} {π : List Nat} (s : St P C ρ (lh L) fr a w) (hD : ∀ i, C.D i → i < n0) (h : leR n0 π fr L fr' L') : St P C (fun i => ρ (sg n0 π i)) (lh L') fr' a w := by
  obtain ⟨hf, hok, hl1, hex, hinj⟩ := h
  generalize hσ : sg n0 π = σ at *
  have hm : ∀ j, objM σ (born (lh L')) (lh L' j) (lh L (σ j)) := by
    intro j
    by_cases hj : j < L'.length
    · have := (leK_get L' 0 j hex hj).1; rwa [Nat.zero_add] at this
    · have : lh L' j = .unborn := by simp [lh, List.getElem?_eq_none (Nat.le_of_not_lt hj)]
      rw [this]; exact trivial
  have σget : ∀ j, j < L'.length → (List.range n0 ++ π)[j]? = some (σ j) := by
    intro j hj
    rw [← hσ]
    unfold sg
    by_cases h : j < n0
    · rw [if_pos h, List.getElem?_append_left (by simpa using h)]; simp [h]
    · rw [if_neg h, List.getElem?_append_right (by simpa using h)]
      simp only [List.length_range, List.getD]
      have : j - n0 < π.length := by omega
      rw [List.getElem?_eq_getElem this]; rfl
  have hi : ∀ i j, i ≠ j → (lh L' i).isOwn → (lh L' j).live → σ i ≠ σ j := by
    intro i j hij hio hjl
    have lt : ∀ j, (lh L' j).live → j < L'.length := by
      intro j hj
      by_cases h : j < L'.length
      · exact h
      · have : lh L' j = .unborn := by simp [lh, List.getElem?_eq_none (Nat.le_of_not_lt h)]
        rw [this] at hj; exact hj.elim
    have h1 := lt i (live_of_own hio)
    have h2 := lt j hjl
    by_cases h : i < j
    · exact injOk_get _ L' i j _ _ (by simp [hl1]) hinj (σget i h1) (σget j h2) h (.inl ⟨hio, hjl⟩)
    · exact (injOk_get _ L' j i _ _ (by simp [hl1]) hinj (σget j h2) (σget i h1) (by omega) (.inr ⟨hjl, hio⟩)).symm
  have σid : ∀ i, i < n0 → σ i = i := fun i hi => by rw [← hσ]; simp [sg, hi]
  refine ⟨s.sim.pull hm hi, ?_, s.defers, s.kept, fun i hb => ?_, fun i hi => ?_⟩
  · have h1 : VsRel (born (lh L)) ρ (rens σ fr') a.tmps.toList := s.fr.le _ _ _ hf
    exact h1.pull fr' hok
  · refine s.mine (σ i) ⟨?_, hb.2⟩
    have := hm i
    have ho := hb.1
    cases hx : lh L' i with
    | own cs t => rw [hx] at this; simp [this.1, AObj.isOwn]
    | _ => simp [hx, AObj.isOwn] at ho
  · have hil := hD i hi
    refine ⟨?_, (leK_get L' 0 i hex (by omega)).2⟩
    show ρ (σ i) = C.ρ0 i
    rw [σid i hil]
    exact (s.old i hi).1

/-- A loop, by what holds at its head: a family of states, each told up to the names of what is new. -/
theorem loopK_ren (hT : TOk P T) {n0 : Nat} (hD : ∀ i, C.D i → i < n0) {c : Code} {Q : Post} {α : Type} (inv : α → Prop) (μ : α → Nat) (stF : α → List AV) (stL : α → List AObj) (s0 : α)
    (h0 : inv s0) (hs : ∃ π, leR n0 π fr L (stF s0) (stL s0))
    (step : ∀ s, inv s → vc P T C c (thenK (fun fr L => ∃ s', inv s' ∧ μ s' < μ s ∧ ∃ π, leR n0 π fr L (stF s') (stL s')) Q) (stF s) (stL s)) : loopK P C c Q fr L := by
  intro ρ a w hst b k cs
  have key : ∀ n s ρ a w, μ s = n → inv s → St P C ρ (lh (stL s)) (stF s) a w →
      ∃ e a' w', lift P C Q e a' w' ∧ Arrives P (lone (b.at a (.code c :: .inLoop c :: k)) cs w) b k cs e a' w' := by
    intro n
    induction n using Nat.strongRecOn with
    | _ n ih =>
      intro s ρ a w hn hI hs
      obtain ⟨e, a₁, w₁, ⟨ρ1, fr1, L1, s1, hq⟩, harr⟩ := vc_sound hT c _ ρ _ _ a w hs (step s hI) b (.inLoop c :: k) cs
      cases e with
      | normal =>
        obtain ⟨s', hI', hlt, π, hle⟩ := hq
        obtain ⟨e₂, a₂, w₂, hq₂, harr₂⟩ := ih (μ s') (hn ▸ hlt) s' _ a₁ w₁ rfl hI' (s1.ren hD hle)
        exact ⟨e₂, a₂, w₂, hq₂, .of_steps (Steps.trans harr (.one step_inLoop)) harr₂⟩
      | exit id => exact ⟨_, a₁, w₁, ⟨ρ1, fr1, L1, s1, hq⟩, .pass (x := .inLoop c) rfl (fun _ _ => .inl (by simp)) harr⟩
      | goto l => exact ⟨_, a₁, w₁, ⟨ρ1, fr1, L1, s1, hq⟩, .pass (x := .inLoop c) rfl (fun _ _ => .inl (by simp)) harr⟩
      | ret => exact ⟨_, a₁, w₁, ⟨ρ1, fr1, L1, s1, hq⟩, .pass (x := .inLoop c) rfl (fun _ _ => .inl (by simp)) harr⟩
      | panic ch => exact ⟨_, a₁, w₁, ⟨ρ1, fr1, L1, s1, hq⟩, .pass (x := .inLoop c) rfl (fun _ _ => .inl (by simp)) harr⟩
      | outgrown => exact ⟨_, a₁, w₁, ⟨ρ1, fr1, L1, s1, hq⟩, .pass (x := .inLoop c) rfl (fun _ _ => .inl (by simp)) harr⟩
  obtain ⟨π, hs⟩ := hs
  obtain ⟨e, a', w', hq, harr⟩ := key _ s0 _ a w rfl h0 (hst.ren hD hs)
  exact ⟨e, a', w', hq, .of_steps (.one step_loop) harr⟩
end
end Go.Proofs.Ytbfefpkhalegmaa

set_option linter.unusedVariables false
set_option linter.unusedSimpArgs false
namespace Go.Proofs.Ytbfefpkhalegmaa
open Go

def cvtP (a b : TK) (x : AV) (k : AV → Prop) : Prop := match a, b with | .int _, .int j => intK x fun _ n => k (.int j (j.wrap n)) | _, _ => False
theorem cvtP_int (i j : IntKind) (x : AV) (k : AV → Prop) : cvtP (.int i) (.int j) x k = intK x fun _ n => k (.int j (j.wrap n)) := nrf rfl
def usL (l : List (List Nat)) (i : Nat) : List Nat := l.getD i []
def kpL (l : List Keep) (i : Nat) : Keep := l.getD i (.below 0)
section
variable (P : Program) (T : TyTab) (us : Nat → List Nat) (kp : Nat → Keep) (i : Nat) (fr : List AV) (L : List AObj) (K : AV → List AObj → Prop) (all rest : List Oper) (N : List AV → List AObj → Prop)
theorem mmGo_min (kk : IntKind) (n : Int) (x : Operand) (xs : List Operand) (k : AV → Prop) : astep.mmGo fr true kk n (x :: xs) k = intK (ev fr x) fun _ y => astep.mmGo fr true kk (min n y) xs k := by
  rw [mmGo_cons]
  congr 1; funext _ y
  congr 1
  simp only [if_true]
  split <;> omega
theorem mmGo_max (kk : IntKind) (n : Int) (x : Operand) (xs : List Operand) (k : AV → Prop) : astep.mmGo fr false kk n (x :: xs) k = intK (ev fr x) fun _ y => astep.mmGo fr false kk (max n y) xs k := by
  rw [mmGo_cons]
  congr 1; funext _ y
  congr 1
  simp only [Bool.false_eq_true, if_false]
  split <;> omega
theorem bits_u8 : IntKind.u8.bits = 8 := rfl
theorem bits_u16 : IntKind.u16.bits = 16 := rfl
theorem bits_u32 : IntKind.u32.bits = 32 := rfl
theorem bits_u64 : IntKind.u64.bits = 64 := rfl
theorem bits_i32 : IntKind.i32.bits = 32 := rfl
theorem bits_i64 : IntKind.i64.bits = 64 := rfl
theorem usL_nil : usL [] i = [] := nrf rfl
theorem usL_zero (x : List Nat) (l : List (List Nat)) : usL (x :: l) 0 = x := nrf rfl
theorem usL_succ (x : List Nat) (l : List (List Nat)) (n : Nat) : usL (x :: l) (n + 1) = usL l n := by simp [usL]
theorem kpL_nil : kpL [] i = .below 0 := nrf rfl
theorem kpL_zero (x : Keep) (l : List Keep) : kpL (x :: l) 0 = x := nrf rfl
theorem kpL_succ (x : Keep) (l : List Keep) (n : Nat) : kpL (x :: l) (n + 1) = kpL l n := by simp [kpL]
theorem sameK_none (L L' : List AObj) : sameK (.below 0) L L' = True := by simp [sameK]
theorem sameK_below (n : Nat) (L L' : List AObj) : sameK (.below n) L L' = (L'.take n = L.take n) := rfl
theorem sameK_cells (l : List (Nat × Nat)) (L L' : List AObj) : sameK (.cells l) L L' = ∀ c ∈ l, (lh L' c.1).cells[c.2]? = (lh L c.1).cells[c.2]? ∧ elemO (lh L' c.1) = elemO (lh L c.1) := rfl
theorem sameK_fresh (n : Nat) (L L' : List AObj) : sameK (.fresh n) L L' = (L'.take n = L.take n ∧ roSub (L'.drop n) (L.drop n)) := rfl
theorem roSub_nil (L : List AObj) : roSub [] L = True := rfl
theorem roSub_own (cs : List AV) (e : TypeId) (L' L : List AObj) : roSub (.own cs e :: L') L = roSub L' L.tail := rfl
theorem roSub_dead (L' L : List AObj) : roSub (.dead :: L') L = roSub L' L.tail := rfl
theorem roSub_ro (cs : List AV) (e : TypeId) (L' L : List AObj) : roSub (.ro cs e :: L') L = (L[0]? = some (.ro cs e) ∧ roSub L' L.tail) := rfl
theorem covK_fresh (m i off n : Nat) : covK (.fresh m) i off n = (i < m) := nrf rfl
theorem covK_below (m i off n : Nat) : covK (.below m) i off n = (i < m) := nrf rfl
theorem covs_nil (op : Op) : covs T op fr kp [] = True := nrf rfl
theorem covs_cons (op : Op) (j : Nat) (js : List Nat) : covs T op fr kp (j :: js) = (covO T op fr (kp j) ∧ covs T op fr kp js) := nrf rfl
theorem covO_load (t : TypeId) (x : Operand) (k : Keep) : covO T (.load t x) fr k = optK (T t) fun ti => ptrK (ev fr x) fun i off => covK k i off (if ti.k.isAgg then ti.size else 1) := nrf rfl
theorem covO_slice (t : TypeId) (x : Operand) (lo hi mx : Option Operand) (k : Keep) : covO T (.slice t x lo hi mx) fr k = slK (ev fr x) (fun i _ _ => covK k i 0 1) True True := nrf rfl
theorem chk_yes (q : Prop) : chk True q = q := by simp [chk]
theorem DRun_nil : DRun P T all us kp i [] N fr L = N fr L := nrf rfl
theorem DRun_op (d : Option Tmp) (op : Op) (ty : TypeId) (pos : String) (af : Array Edge) :
    DRun P T all us kp i (⟨d, op, ty, pos, af, none⟩ :: rest) N fr L = dop P T us kp i op fr L fun v L' => DRun P T all us kp (i + 1) rest N (putA fr d v) L' := nrf rfl
theorem DRun_guard (d : Option Tmp) (op : Op) (ty : TypeId) (pos : String) (af : Array Edge) (j : Nat) (want : Bool) :
    DRun P T all us kp i (⟨d, op, ty, pos, af, some (j, want)⟩ :: rest) N fr L = optK (all[j]?.bind fun o => o.dst) fun t => guK (fr.getD t .junk) (fun b => condK ((b == want))
      (DRun P T all us kp i (⟨d, op, ty, pos, af, none⟩ :: rest) N fr L) (DRun P T all us kp (i + 1) rest N (putA fr d (.tup [])) L)) (DRun P T all us kp (i + 1) rest N (putA fr d (.tup [])) L) := by
  simp only [DRun, gdK]
  cases h : all[j]? with
  | none => rfl
  | some o => cases h2 : o.dst <;> simp [optK, h2]
theorem DRun_congr (ops : List Oper) (i' : Nat) (fr' : List AV) (L' : List AObj) (hi : i = i') (h : fr = fr') (h' : L = L') : DRun P T all us kp i ops N fr L = DRun P T all us kp i' ops N fr' L' := by rw [hi, h, h']
theorem dop_congr (op : Op) (fr' : List AV) (L' : List AObj) (h : fr = fr') (h' : L = L') : dop P T us kp i op fr L K = dop P T us kp i op fr' L' K := by rw [h, h']
theorem dop_move (x : Operand) : dop P T us kp i (.move x) fr L K = aop P T (.move x) fr L K := nrf rfl
theorem dop_assign (x : Operand) : dop P T us kp i (.assign x) fr L K = aop P T (.assign x) fr L K := nrf rfl
theorem dop_pick (c a b : Operand) : dop P T us kp i (.pick c a b) fr L K = aop P T (.pick c a b) fr L K := nrf rfl
theorem dop_build (t : TypeId) (l : Array (Nat × Operand)) : dop P T us kp i (.build t l) fr L K = aop P T (.build t l) fr L K := nrf rfl
theorem dop_nilCheck (x : Operand) : dop P T us kp i (.nilCheck x) fr L K = aop P T (.nilCheck x) fr L K := nrf rfl
theorem dop_binOp (op : BinOp) (t t' : TypeId) (x y : Operand) : dop P T us kp i (.binOp op t x y t') fr L K = aop P T (.binOp op t x y t') fr L K := nrf rfl
theorem dop_unOp (op : UnOp) (t : TypeId) (x : Operand) : dop P T us kp i (.unOp op t x) fr L K = aop P T (.unOp op t x) fr L K := nrf rfl
theorem dop_convert (s t : TypeId) (x : Operand) : dop P T us kp i (.convert s t x) fr L K =
    valK (kp i) (optK (T s) fun si => optK (T t) fun ti => cvtP si.k ti.k (ev fr x) fun v => K v L) fun _ => chkN (covs T (.convert s t x) fr kp (us i)) (aop P T (.convert s t x) fr L K) := by
  have hr : (∀ v, kp i ≠ .val v) → dop P T us kp i (.convert s t x) fr L K = optK (T s) fun si => optK (T t) fun ti => cvtP si.k ti.k (ev fr x) fun v => K v L := by
    intro hk
    have hcl : clK (kp i) (.convert s t x) = .r := by
      cases h : kp i <;> first | rfl | exact absurd h (hk _)
    simp only [dop, hcl, aopV, astep]
    refine congrArg _ (funext fun si => congrArg _ (funext fun ti => ?_))
    cases si.k <;> cases ti.k <;> rfl
  cases h : kp i with
  | val v => simp only [dop, clK, h, valK]; rfl
  | _ => rw [hr (fun v hv => by rw [h] at hv; cases hv)]; rfl
theorem covW_below (m j : Nat) : covW (.below m) j = (j < m) := nrf rfl
theorem covW_fresh (m j : Nat) : covW (.fresh m) j = (j < m) := nrf rfl
theorem covO_convert (s t : TypeId) (x : Operand) (k : Keep) : covO T (.convert s t x) fr k = slK (ev fr x) (fun i _ _ => covW k i) True True := nrf rfl
theorem cvtP_congr (a a' b b' : TK) (x x' : AV) (k : AV → Prop) (h1 : a = a') (h2 : b = b') (h3 : x = x') : cvtP a b x k = cvtP a' b' x' k := by rw [h1, h2, h3]
theorem dop_fieldAddr (t : TypeId) (x : Operand) (f : Nat) : dop P T us kp i (.fieldAddr t x f) fr L K = aop P T (.fieldAddr t x f) fr L K := nrf rfl
theorem dop_field (t : TypeId) (x : Operand) (f : Nat) : dop P T us kp i (.field t x f) fr L K = aop P T (.field t x f) fr L K := nrf rfl
theorem dop_indexAddr (t : TypeId) (x ix : Operand) : dop P T us kp i (.indexAddr t x ix) fr L K = aop P T (.indexAddr t x ix) fr L K := nrf rfl
theorem dop_index (t : TypeId) (x ix : Operand) : dop P T us kp i (.index t x ix) fr L K = aop P T (.index t x ix) fr L K := nrf rfl
theorem dop_extract (x : Operand) (n : Nat) : dop P T us kp i (.extract x n) fr L K = aop P T (.extract x n) fr L K := nrf rfl
theorem dop_makeFunc (f : Fn) (l1 l : Array Operand) : dop P T us kp i (.makeFunc f l1 l) fr L K = aop P T (.makeFunc f l1 l) fr L K := nrf rfl
theorem dop_len (l : Array Operand) (ts : Array TypeId) : dop P T us kp i (.call { callee := .builtin .len, args := l, argTypes := ts }) fr L K = aop P T (.call { callee := .builtin .len, args := l, argTypes := ts }) fr L K := nrf rfl
theorem dop_min (l : Array Operand) (ts : Array TypeId) : dop P T us kp i (.call { callee := .builtin .min, args := l, argTypes := ts }) fr L K = aop P T (.call { callee := .builtin .min, args := l, argTypes := ts }) fr L K := nrf rfl
theorem dop_max (l : Array Operand) (ts : Array TypeId) : dop P T us kp i (.call { callee := .builtin .max, args := l, argTypes := ts }) fr L K = aop P T (.call { callee := .builtin .max, args := l, argTypes := ts }) fr L K := nrf rfl
theorem dop_load (t : TypeId) (x : Operand) : dop P T us kp i (.load t x) fr L K = chkN (covs T (.load t x) fr kp (us i)) (aop P T (.load t x) fr L K) := nrf rfl
theorem dop_slice (t : TypeId) (x : Operand) (lo hi mx : Option Operand) : dop P T us kp i (.slice t x lo hi mx) fr L K = chkN (covs T (.slice t x lo hi mx) fr kp (us i)) (aop P T (.slice t x lo hi mx) fr L K) := nrf rfl
theorem dop_alloc (t : TypeId) : dop P T us kp i (.alloc t) fr L K = aop P T (.alloc t) fr L fun v L' => chkN (sameK (kp i) L L') (K v L') := nrf rfl
theorem dop_box (t : TypeId) (x : Operand) : dop P T us kp i (.box t x) fr L K = aop P T (.box t x) fr L fun v L' => chkN (sameK (kp i) L L') (K v L') := nrf rfl
theorem dop_store (t : TypeId) (x y : Operand) : dop P T us kp i (.store t x y) fr L K = aop P T (.store t x y) fr L fun v L' => chkN (sameK (kp i) L L') (K v L') := nrf rfl
theorem dop_makeSlice (t : TypeId) (x y : Operand) : dop P T us kp i (.makeSlice t x y) fr L K = aop P T (.makeSlice t x y) fr L fun v L' => chkN (sameK (kp i) L L') (K v L') := nrf rfl
theorem dop_buildSlice (t : TypeId) (n : Nat) (l : Array (Nat × Operand)) : dop P T us kp i (.buildSlice t n l) fr L K = aop P T (.buildSlice t n l) fr L fun v L' => chkN (sameK (kp i) L L') (K v L') := nrf rfl
theorem dop_call (f : Operand) (l : Array Operand) (ts : Array TypeId) : dop P T us kp i (.call { callee := .value f, args := l, argTypes := ts }) fr L K =
    valK (kp i) (aop P T (.call { callee := .value f, args := l, argTypes := ts }) fr L fun v L' => chkN (sameK (kp i) L L') (K v L')) fun v => vcallK P (ev fr f) (l.toList.map (ev fr)) v (K v L) := by
  cases h : kp i <;> simp only [dop, clK, h, aopV, valK] <;> rfl
theorem valK_congr (k k' : Keep) (no : Prop) (yes : AV → Prop) (h : k = k') : valK k no yes = valK k' no yes := by rw [h]
theorem vcallK_congr (f f' : AV) (args args' : List AV) (v : AV) (q : Prop) (h : f = f') (h' : args = args') : vcallK P f args v q = vcallK P f' args' v q := by rw [h, h']
theorem dop_append (l : Array Operand) (ts : Array TypeId) : dop P T us kp i (.call { callee := .builtin .append, args := l, argTypes := ts }) fr L K = aop P T (.call { callee := .builtin .append, args := l, argTypes := ts }) fr L fun v L' => chkN (sameK (kp i) L L') (K v L') := nrf rfl
end
attribute [congr] DRun_congr dop_congr valK_congr vcallK_congr cvtP_congr
end Go.Proofs.Ytbfefpkhalegmaa

set_option linter.unusedVariables false
set_option linter.unusedSimpArgs false
namespace Go.Proofs.Ytbfefpkhalegmaa
open Go

def atL (f : AV → AV) : Nat → List AV → List AV
  | 0, v :: vs => f v :: vs
  | i + 1, v :: vs => v :: atL f i vs
  | _, [] => []
def bnil (n : Nat) (v : AV) : AV := match v with | .nilslice => .slice n 0 0 | .noslice => .slice n 0 0 | v => v
def bagg (f : List AV → List AV) (v : AV) : AV := match v with | .agg cs => .agg (f cs) | .tup cs => .tup (f cs) | v => v
def bv (n : Nat) : List Nat → AV → AV
  | [] => bnil n
  | i :: p => bagg (atL (bv n p) i)
theorem atL_zero (f : AV → AV) (v : AV) (vs : List AV) : atL f 0 (v :: vs) = f v :: vs := nrf rfl
theorem atL_succ (f : AV → AV) (i : Nat) (v : AV) (vs : List AV) : atL f (i + 1) (v :: vs) = v :: atL f i vs := nrf rfl
theorem bnil_nil (n : Nat) : bnil n .nilslice = .slice n 0 0 := nrf rfl
theorem bnil_no (n : Nat) : bnil n .noslice = .slice n 0 0 := nrf rfl
theorem bagg_agg (f : List AV → List AV) (cs : List AV) : bagg f (.agg cs) = .agg (f cs) := nrf rfl
theorem bagg_tup (f : List AV → List AV) (cs : List AV) : bagg f (.tup cs) = .tup (f cs) := nrf rfl
theorem bv_nil (n : Nat) (v : AV) : bv n [] v = bnil n v := nrf rfl
theorem bv_cons (n i : Nat) (p : List Nat) (v : AV) : bv n (i :: p) v = bagg (atL (bv n p) i) v := nrf rfl

/-- Where a nil slice stands: in the frame, or in a cell. -/
inductive BLoc where
  | fr (i : Nat) (p : List Nat)
  | cell (o j : Nat)
def bobj (n j : Nat) (o : AObj) : AObj := match o with | .own cs e => .own (atL (bnil n) j cs) e | o => o
theorem bobj_own (n j : Nat) (cs : List AV) (e : TypeId) : bobj n j (.own cs e) = .own (atL (bnil n) j cs) e := nrf rfl
def brun (T : TyTab) : List (TypeId × BLoc) → List AV → List AObj → (List AV → List AObj → Prop) → Prop
  | [], fr, L, K => K fr L
  | (e, .fr i p) :: bs, fr, L, K => optK (T e) fun _ => brun T bs (atL (bv L.length p) i fr) (L ++ [.own [] e]) K
  | (e, .cell o j) :: bs, fr, L, K => optK (T e) fun _ => brun T bs fr (L.set o (bobj L.length j (lh L o)) ++ [.own [] e]) K
theorem brun_nil (T : TyTab) (fr : List AV) (L : List AObj) (K : List AV → List AObj → Prop) : brun T [] fr L K = K fr L := nrf rfl
theorem brun_fr (T : TyTab) (e : TypeId) (i : Nat) (p : List Nat) (bs : List (TypeId × BLoc)) (fr : List AV) (L : List AObj) (K : List AV → List AObj → Prop) :
    brun T ((e, .fr i p) :: bs) fr L K = optK (T e) fun _ => brun T bs (atL (bv L.length p) i fr) (L ++ [.own [] e]) K := nrf rfl
theorem brun_cell (T : TyTab) (e : TypeId) (o j : Nat) (bs : List (TypeId × BLoc)) (fr : List AV) (L : List AObj) (K : List AV → List AObj → Prop) :
    brun T ((e, .cell o j) :: bs) fr L K = optK (T e) fun _ => brun T bs fr (L.set o (bobj L.length j (lh L o)) ++ [.own [] e]) K := nrf rfl

section
variable {P : Program} {T : TyTab} {C : Ctx} {ρ : Nat → Pl} {fr fr' : List AV} {a : Act} {w : World} {L L' : List AObj} {B : Nat → Prop}

theorem VRel.bnil {n : Nat} {v : AV} {V : Value} (h : VRel B ρ v V) (hn : B n) : VRel B ρ (bnil n v) V := by
  cases v with
  | nilslice => cases h; exact .slice0 n 0 none hn
  | noslice => cases h; exact .slice0 n 0 _ hn
  | _ => exact h
theorem VsRel.atL {f : AV → AV} (hf : ∀ v V, VRel B ρ v V → VRel B ρ (f v) V) : ∀ (i : Nat) (vs : List AV) (Vs : List Value), VsRel B ρ vs Vs → VsRel B ρ (atL f i vs) Vs
  | 0, v :: vs, _, h => by cases h with | cons _ V _ Vs h hs => exact .cons _ _ _ _ (hf v V h) hs
  | i + 1, v :: vs, _, h => by cases h with | cons _ V _ Vs h hs => exact .cons _ _ _ _ h (VsRel.atL hf i vs Vs hs)
  | 0, [], _, h => h
  | _ + 1, [], _, h => h
theorem VRel.bv {n : Nat} (hn : B n) : ∀ (p : List Nat) (v : AV) (V : Value), VRel B ρ v V → VRel B ρ (bv n p v) V
  | [], v, V, h => h.bnil hn
  | i :: p, v, V, h => by
    cases v with
    | agg cs => cases h with | agg _ vs hs => exact .agg _ vs (VsRel.atL (fun v V h => VRel.bv hn p v V h) i cs vs hs)
    | tup cs => cases h with | tup _ vs hs => exact .tup _ vs (VsRel.atL (fun v V h => VRel.bv hn p v V h) i cs vs hs)
    | _ => exact h
theorem atL_get {f : AV → AV} : ∀ (i : Nat) (vs : List AV) (m : Nat) (u : AV), (atL f i vs)[m]? = some u → ∃ u0, vs[m]? = some u0 ∧ (u = u0 ∨ u = f u0)
  | 0, v :: vs, 0, u, h => by simp [atL] at h; exact ⟨v, rfl, .inr h.symm⟩
  | 0, v :: vs, m + 1, u, h => by simp [atL] at h; exact ⟨u, by simpa using h, .inl rfl⟩
  | i + 1, v :: vs, 0, u, h => by simp [atL] at h; exact ⟨v, rfl, .inl h.symm⟩
  | i + 1, v :: vs, m + 1, u, h => by
    simp [atL] at h
    obtain ⟨u0, h1, h2⟩ := atL_get i vs m u h
    exact ⟨u0, by simpa using h1, h2⟩
  | 0, [], m, u, h => by simp [atL] at h
  | _ + 1, [], m, u, h => by simp [atL] at h
theorem atL_length {f : AV → AV} : ∀ (i : Nat) (vs : List AV), (atL f i vs).length = vs.length
  | 0, v :: vs => by simp [atL]
  | i + 1, v :: vs => by simp [atL, atL_length i vs]
  | 0, [] => rfl
  | _ + 1, [] => rfl

theorem CRel.bcell {n j : Nat} {cs : List AV} {get : Nat → Option Value} (h : CRel B ρ cs get) (hn : B n) : CRel B ρ (Go.Proofs.Ytbfefpkhalegmaa.atL (Go.Proofs.Ytbfefpkhalegmaa.bnil n) j cs) get := by
  intro m u hu
  obtain ⟨u0, h1, h2⟩ := atL_get j cs m u hu
  obtain ⟨V, hV, hr⟩ := h m u0 h1
  rcases h2 with rfl | rfl
  · exact ⟨V, hV, hr⟩
  · exact ⟨V, hV, hr.bnil hn⟩

theorem Sim.bcell {h : Heap} (s : Sim P ρ h w) {o n j : Nat} (hn : born h n) : Sim P ρ (upd h o (bobj n j (h o))) w := by
  cases ho : h o with
  | own cs e =>
    have hB : ∀ i, born h i → born (upd h o (.own (atL (bnil n) j cs) e)) i ∧ ρ i = ρ i := fun i hi => ⟨born_own hi, rfl⟩
    have hbk : ∀ i, hasBlk ρ (upd h o (.own (atL (bnil n) j cs) e)) i → hasBlk ρ h i := by
      intro i x
      by_cases hi : i = o
      · subst hi; exact ⟨by simp [ho, AObj.isOwn], x.2⟩
      · exact hasBlk_upd hi x
    have hhd : ∀ i, held ρ (upd h o (.own (atL (bnil n) j cs) e)) i → held ρ h i := by
      intro i x
      by_cases hi : i = o
      · subst hi
        rcases x with x | ⟨cs', e', x, _⟩
        · exact .inl (hbk i x)
        · rw [upd_same] at x; simp at x
      · exact held_upd hi x
    refine ⟨fun i cs' e' he => ?_, fun i cs' e' he => ?_, fun i k hik hi hk => s.inj i k hik (hbk i hi) (hhd k hk)⟩
    · by_cases hi : i = o
      · subst hi
        rw [show bobj n j (.own cs e) = .own (atL (bnil n) j cs) e from rfl, upd_same] at he
        injection he with h1 h2
        subst h1; subst h2
        obtain ⟨h1, h2, h3, h4, h5⟩ := s.own i cs e ho
        refine ⟨h1, h2, h3, by rw [atL_length]; exact h4, fun ht => ?_⟩
        obtain ⟨c, h5, h6, h7⟩ := h5 ht
        exact ⟨c, h5, h6, (h7.bcell hn).mono hB (fun _ _ _ hg => hg)⟩
      · rw [show bobj n j (.own cs e) = .own (atL (bnil n) j cs) e from rfl, upd_ne _ _ hi] at he
        obtain ⟨h1, h2, h3, h4, h5⟩ := s.own i cs' e' he
        refine ⟨h1, h2, h3, h4, fun ht => ?_⟩
        obtain ⟨c, h5, h6, h7⟩ := h5 ht
        exact ⟨c, h5, h6, h7.mono hB (fun _ _ _ hg => hg)⟩
    · by_cases hi : i = o
      · subst hi; rw [show bobj n j (.own cs e) = .own (atL (bnil n) j cs) e from rfl, upd_same] at he; simp at he
      · rw [show bobj n j (.own cs e) = .own (atL (bnil n) j cs) e from rfl, upd_ne _ _ hi] at he
        obtain ⟨h1, h2⟩ := s.ro i cs' e' he
        exact ⟨h1, h2.mono hB (fun _ _ _ hg => hg)⟩
  | _ =>
    have : upd h o (bobj n j (h o)) = h := by
      funext i
      by_cases hi : i = o
      · subst hi; rw [upd_same, ho]; rfl
      · rw [upd_ne _ _ hi]
    rw [ho] at this
    rw [this]; exact s

theorem lh_set' (L : List AObj) (i : Nat) (o : AObj) (h : i < L.length ∨ o = lh L i) : lh (L.set i o) = upd (lh L) i o := by
  by_cases hi : i < L.length
  · exact lh_set L i o hi
  · rcases h with h | h
    · exact absurd h hi
    · funext j
      rw [List.set_eq_of_length_le (by omega)]
      by_cases hj : j = i
      · subst hj; rw [upd_same, h]
      · rw [upd_ne _ _ hj]

/-- What is told of values besides: it holds behind as well. -/
theorem birth (s : St P C ρ (lh L) fr a w) {e : TypeId} {ti : TypeInfo} (hi : P.info? e = some ti) :
    ∃ ρ', St P C ρ' (lh (L ++ [.own [] e])) fr a w ∧ born (lh (L ++ [.own [] e])) L.length ∧ (∀ i, born (lh L) i → born (lh (L ++ [.own [] e])) i ∧ ρ' i = ρ i) := by
  have hB : ∀ i, born (lh L) i → born (lh (L ++ [.own [] e])) i ∧ upd ρ L.length ⟨0, 0, true, 0, ti.size⟩ i = ρ i := by
    intro i hi
    have hne : i ≠ L.length := fun e => by subst e; simp [born, lh_unborn, AObj.born] at hi
    exact ⟨by rw [lh_append]; exact born_own hi, upd_ne _ _ hne⟩
  refine ⟨upd ρ L.length ⟨0, 0, true, 0, ti.size⟩, ?_, by rw [lh_append]; simp [born, upd_same, AObj.born], hB⟩
  refine s.next (by rw [lh_append]; exact s.sim.allocNone (lh_unborn L) e ti hi 0) hB (Kept.refl (fun _ => False) w) (fun _ h => h.elim) ?_
  intro i hb
  by_cases hik : i = L.length
  · subst hik; rw [lh_append] at hb; have := hb.2; rw [upd_same] at this; simp at this
  · rw [upd_ne _ _ hik]
    refine s.mine i ?_
    unfold hasBlk at *
    rwa [lh_append, upd_ne _ _ hik, upd_ne _ _ hik] at hb

theorem brun_sound (hT : TOk P T) {D : List AV → Prop} : ∀ (bs : List (TypeId × BLoc)) (ρ : Nat → Pl) (xs : List AV) (Xs : List Value) (L : List AObj) (K : List AV → List AObj → Prop),
    St P C ρ (lh L) fr a w → VsRel (born (lh L)) ρ xs Xs → brun T bs xs L K →
    ∃ ρ' xs' L', St P C ρ' (lh L') fr a w ∧ VsRel (born (lh L')) ρ' xs' Xs ∧ K xs' L' ∧ (∀ i, born (lh L) i → born (lh L') i ∧ ρ' i = ρ i)
  | [], ρ, xs, Xs, L, K, s, hx, hk => ⟨ρ, xs, L, s, hx, hk, fun i hi => ⟨hi, rfl⟩⟩
  | (e, .fr i p) :: bs, ρ, xs, Xs, L, K, s, hx, hk => by
    rw [brun_fr] at hk
    obtain ⟨ti, hti, hk⟩ := optK_ex hk
    obtain ⟨inf, hinf, _⟩ := (hT e ti hti).info
    obtain ⟨ρ1, s1, hn, hB⟩ := birth s hinf
    obtain ⟨ρ', xs', L', h1, h2, h3, h4⟩ := brun_sound hT (D := D) bs ρ1 _ Xs _ K s1 (VsRel.atL (fun v V h => VRel.bv hn p v V h) i xs Xs (hx.mono hB)) hk
    exact ⟨ρ', xs', L', h1, h2, h3, fun i hi => ⟨(h4 i (hB i hi).1).1, (h4 i (hB i hi).1).2.trans (hB i hi).2⟩⟩
  | (e, .cell o j) :: bs, ρ, xs, Xs, L, K, s, hx, hk => by
    rw [brun_cell] at hk
    obtain ⟨ti, hti, hk⟩ := optK_ex hk
    obtain ⟨inf, hinf, _⟩ := (hT e ti hti).info
    obtain ⟨ρ1, s1, hn, hB⟩ := birth s hinf
    have heq : lh (L.set o (bobj L.length j (lh L o)) ++ [.own [] e]) = upd (lh (L ++ [.own [] e])) o (bobj L.length j (lh (L ++ [.own [] e]) o)) := by
      by_cases ho : o < L.length
      · have e1 : lh (L ++ [.own [] e]) o = lh L o := by simp [lh, List.getElem?_append_left ho]
        rw [e1, lh_append, List.length_set, lh_set _ _ _ ho, lh_append]
        funext i
        simp only [upd]
        by_cases h1 : i = L.length
        · subst h1; simp; intro h; omega
        · simp [h1]
      · have e1 : L.set o (bobj L.length j (lh L o)) = L := List.set_eq_of_length_le (by omega)
        rw [e1]
        have e2 : bobj L.length j (lh (L ++ [.own [] e]) o) = lh (L ++ [.own [] e]) o := by
          rw [lh_append]
          by_cases h1 : o = L.length
          · subst h1; rw [upd_same]; simp [bobj, atL]
          · rw [upd_ne _ _ h1]
            have : lh L o = .unborn := by simp [lh, List.getElem?_eq_none (show L.length ≤ o by omega)]
            rw [this]; rfl
        rw [e2]
        funext i
        by_cases h1 : i = o
        · subst h1; rw [upd_same]
        · rw [upd_ne _ _ h1]
    have hbb : ∀ i, born (lh (L ++ [.own [] e])) i → born (lh (L.set o (bobj L.length j (lh L o)) ++ [.own [] e])) i ∧ ρ1 i = ρ1 i := by
      intro i hi
      refine ⟨?_, rfl⟩
      rw [heq]
      refine born_upd ?_ hi
      by_cases hb : born (lh (L ++ [.own [] e])) o
      · right
        unfold born at hb
        cases h : lh (L ++ [.own [] e]) o <;> simp_all [bobj, AObj.born]
      · exact .inl hb
    have s2 : St P C ρ1 (lh (L.set o (bobj L.length j (lh L o)) ++ [.own [] e])) fr a w := by
      refine s1.next (by rw [heq]; exact s1.sim.bcell hn) hbb (Kept.refl (fun _ => False) w) (fun _ h => h.elim) ?_
      intro i hb
      refine s1.mine i ⟨?_, hb.2⟩
      have h1 := hb.1
      rw [heq] at h1
      by_cases hi : i = o
      · subst hi; rw [upd_same] at h1
        cases h : lh (L ++ [.own [] e]) i <;> simp_all [bobj, AObj.isOwn]
      · rwa [upd_ne _ _ hi] at h1
    obtain ⟨ρ', xs', L', h1, h2, h3, h4⟩ := brun_sound hT (D := D) bs ρ1 _ Xs _ K s2 ((hx.mono hB).mono hbb) hk
    exact ⟨ρ', xs', L', h1, h2, h3, fun i hi => ⟨(h4 i (hbb i (hB i hi).1).1).1, (h4 i (hbb i (hB i hi).1).1).2.trans (hB i hi).2⟩⟩
end
end Go.Proofs.Ytbfefpkhalegmaa

set_option linter.unusedVariables false
set_option linter.unusedSimpArgs false
namespace Go.Proofs.Ytbfefpkhalegmaa
open Go

/-- The end of a function, where nil slices may be told as empty objects. -/
def exitB (T : TyTab) (L0 : List AObj) (R : AV → List AObj → Prop) (r : AV) (L : List AObj) (_ : Bx L0 := .mk) (_ : Bx R := .mk) : Prop :=
  ∃ bs, brun T bs [r] L fun rs L' => exitP L0 R (rs.headD .junk) L'
theorem exitB_of (bs : List (TypeId × BLoc)) {T : TyTab} {L0 : List AObj} {R : AV → List AObj → Prop} {r : AV} {L : List AObj} (h : brun T bs [r] L fun rs L' => exitP L0 R (rs.headD .junk) L') : exitB T L0 R r L := ⟨bs, h⟩
theorem exitB_P {T : TyTab} {L0 : List AObj} {R : AV → List AObj → Prop} {r : AV} {L : List AObj} (h : exitP L0 R r L) : exitB T L0 R r L := ⟨[], h⟩

section
variable {P : Program} {T : TyTab} {C : Ctx} {ρ : Nat → Pl} {fr : List AV} {a : Act} {w : World} {L : List AObj}

/-- A contract from the conditions of the body, nil slices told as empty objects at its end. -/
theorem lcall_of_vcB (hT : TOk P T) {f : FuncId} {fn : Func} {args : List AV} {L0 : List AObj} {R : AV → List AObj → Prop} (hf : P.funcs[f]? = some fn) {c : Code} (hb : fn.body = some c) (hn : (fn.name == "runtime.NumGoroutine") = false)
    {rs : List ResultVar} (hrs : fn.results = rs.toArray) {nt : Nat} (hnt : fn.ntmps = nt)
    (hvc : ∀ C : Ctx, (∀ i, C.D i → i < L0.length) → vc P T C c (finK T rs (fun r L => exitB T L0 R r L)) (args ++ List.replicate (nt - args.length) .junk) L0) : LCall P f args L0 R := by
  have hrs' : fn.results.toList = rs := by rw [hrs]
  subst hrs'; subst hnt
  clear hrs
  refine ⟨⟨fn, hf, hn, by simp [hb]⟩, ?_⟩
  intro ρ w vargs hsim hargs
  refine calls_of_wp hf hb ?_
  let C : Ctx := ⟨w, ownImg ρ (lh L0), fun i => i < L0.length ∧ born (lh L0) i, ρ⟩
  have hlen := hargs.length
  have hst : St P C ρ (lh L0) (args ++ List.replicate (fn.ntmps - args.length) .junk) { tmps := vargs.toArray ++ Array.replicate (fn.ntmps - vargs.toArray.size) undef, defers := [] } w := by
    refine ⟨hsim, ?_, rfl, Kept.refl _ _, fun i hi => .inl ⟨i, hi, rfl⟩, fun i hi => ⟨rfl, hi.2⟩⟩
    simp only [Array.toList_append, Array.toList_replicate]
    refine hargs.append ?_
    have := VsRel.junk (B := born (lh L0)) (ρ := ρ) (List.replicate (fn.ntmps - vargs.toArray.size) undef)
    simpa [hlen] using this
  refine wp_mono (vc_sound hT c _ ρ _ L0 _ w hst (hvc C (fun i hi => hi.1))) ?_
  rintro e a' w' ⟨ρ', fr', L', s', hq⟩
  have fin : resK T fr' L' fn.results.toList [] (fun r L => exitB T L0 R r L) → a'.defers = [] ∧ ∃ v, (results fn a'.tmps).run P w' = .ok v w' ∧
      ∃ ρ' r h' v', Ending.returned v = .returned v' ∧ (∃ L', h' = lh L' ∧ L0.length ≤ L'.length ∧ (∀ i cs e, lh L' i = .ro cs e → lh L0 i = .ro cs e) ∧ R r L') ∧ Sim P ρ' h' w' ∧ VRel (born h') ρ' r v' ∧
        Kept (ownImg ρ (lh L0)) w w' ∧ (∀ i, born (lh L0) i → ρ' i = ρ i ∧ born h' i) ∧ (∀ i, hasBlk ρ' h' i → ownImg ρ (lh L0) (ρ' i).blk ∨ w.heap.size ≤ (ρ' i).blk) := by
    intro hk
    obtain ⟨r, V, hrun, hr, bs, hbr⟩ := run_results hT s' fn _ hk
    refine ⟨s'.defers, V, hrun, ?_⟩
    obtain ⟨ρ', rs, L', s', hrs, hbr, _⟩ := brun_sound hT (D := fun _ => True) bs ρ' [r] [V] L' _ s' (.cons _ _ _ _ hr .nil) hbr
    obtain ⟨r, rfl, hr⟩ : ∃ r, rs = [r] ∧ VRel (born (lh L')) ρ' r V := by
      cases hrs with | cons v _ vs _ h hs => cases hs with | nil => exact ⟨v, rfl, h⟩
    obtain ⟨π, r0, L1, hR, hren, hok, hl1, hex, hinj⟩ : exitP L0 R r L' := hbr
    let σ := sg L0.length π
    have hm : ∀ j, objM σ (born (lh L1)) (lh L1 j) (lh L' (σ j)) := by
      intro j
      by_cases hj : j < L1.length
      · have := (exK_get L0 0 L1 j hex hj).1; rwa [Nat.zero_add] at this
      · have : lh L1 j = .unborn := by simp [lh, List.getElem?_eq_none (Nat.le_of_not_lt hj)]
        rw [this]; exact trivial
    have σget : ∀ j, j < L1.length → (List.range L0.length ++ π)[j]? = some (σ j) := by
      intro j hj
      show _ = some (sg L0.length π j)
      unfold sg
      by_cases h : j < L0.length
      · rw [if_pos h, List.getElem?_append_left (by simpa using h)]; simp [h]
      · rw [if_neg h, List.getElem?_append_right (by simpa using h)]
        simp only [List.length_range, List.getD]
        have : j - L0.length < π.length := by omega
        rw [List.getElem?_eq_getElem this]; rfl
    have hi : ∀ i j, i ≠ j → (lh L1 i).isOwn → (lh L1 j).live → σ i ≠ σ j := by
      intro i j hij hio hjl
      have lt : ∀ j, (lh L1 j).live → j < L1.length := by
        intro j hj
        by_cases h : j < L1.length
        · exact h
        · have : lh L1 j = .unborn := by simp [lh, List.getElem?_eq_none (Nat.le_of_not_lt h)]
          rw [this] at hj; exact hj.elim
      have h1 := lt i (live_of_own hio)
      have h2 := lt j hjl
      by_cases h : i < j
      · exact injOk_get _ L1 i j _ _ (by simp [hl1]) hinj (σget i h1) (σget j h2) h (.inl ⟨hio, hjl⟩)
      · exact (injOk_get _ L1 j i _ _ (by simp [hl1]) hinj (σget j h2) (σget i h1) (by omega) (.inr ⟨hjl, hio⟩)).symm
    have hs1 := s'.sim.pull hm hi
    have σid : ∀ i, i < L0.length → σ i = i := fun i hi => by show sg L0.length π i = i; simp [sg, hi]
    refine ⟨fun i => ρ' (σ i), r0, lh L1, V, rfl, ⟨L1, rfl, exK_len _ _ _ hex, fun i cs e he => ?_, hR⟩, hs1, ?_, ?_, ?_, ?_⟩
    · have : i < L1.length := by
        by_cases h : i < L1.length
        · exact h
        · have : lh L1 i = .unborn := by simp [lh, List.getElem?_eq_none (Nat.le_of_not_lt h)]
          rw [this] at he; simp at he
      exact (exK_get L0 0 L1 i hex this).2.2.1 cs e he
    · rw [hren] at hr; exact hr.pull _ hok
    · exact s'.kept
    · intro i hb
      have hil : i < L0.length := by
        by_cases h : i < L0.length
        · exact h
        · simp [born, lh, List.getElem?_eq_none (Nat.le_of_not_lt h), AObj.born] at hb
      refine ⟨?_, (exK_get L0 0 L1 i hex (by omega)).2.1⟩
      show ρ' (σ i) = ρ i
      rw [σid i hil]
      exact (s'.old i ⟨hil, hb⟩).1
    · intro i hb
      refine s'.mine (σ i) ⟨?_, hb.2⟩
      have := hm i
      have ho := hb.1
      cases hx : lh L1 i with
      | own cs t => rw [hx] at this; simp [this.1, AObj.isOwn]
      | _ => simp [hx, AObj.isOwn] at ho
  cases e <;> first | exact hq.elim | skip
  · obtain ⟨h1, v, h2, ρ', r, h', v', h3, h4⟩ := fin hq
    exact ⟨h1, v, h2, ρ', r, h', v', h3, h4⟩
  · obtain ⟨h1, v, h2, ρ', r, h', v', h3, h4⟩ := fin hq
    exact ⟨h1, v, h2, ρ', r, h', v', h3, h4⟩

theorem St.bren (hT : TOk P T) {n0 : Nat} {bs : List (TypeId × BLoc)} {π : List Nat} {fr' : List AV} {L' : List AObj} (s : St P C ρ (lh L) fr a w) (hD : ∀ i, C.D i → i < n0)
    (h : brun T bs fr L fun fr L => leR n0 π fr L fr' L') : ∃ ρ', St P C ρ' (lh L') fr' a w := by
  obtain ⟨ρ1, xs, L1, s1, hx, hk, _⟩ := brun_sound hT (D := fun _ => True) bs ρ fr _ L _ s s.fr h
  exact ⟨_, St.ren ⟨s1.sim, hx, s1.defers, s1.kept, s1.mine, s1.old⟩ hD hk⟩

/-- A loop, by what holds at its head: a family of states, each told up to the names of what is new. -/
theorem loopK_b (hT : TOk P T) {n0 : Nat} (hD : ∀ i, C.D i → i < n0) {c : Code} {Q : Post} {α : Type} (inv : α → Prop) (μ : α → Nat) (stF : α → List AV) (stL : α → List AObj) (s0 : α)
    (h0 : inv s0) (hs : ∃ bs π, brun T bs fr L fun fr L => leR n0 π fr L (stF s0) (stL s0))
    (step : ∀ s, inv s → vc P T C c (thenK (fun fr L => ∃ s', inv s' ∧ μ s' < μ s ∧ ∃ bs π, brun T bs fr L fun fr L => leR n0 π fr L (stF s') (stL s')) Q) (stF s) (stL s)) : loopK P C c Q fr L := by
  intro ρ a w hst b k cs
  have key : ∀ n s ρ a w, μ s = n → inv s → St P C ρ (lh (stL s)) (stF s) a w →
      ∃ e a' w', lift P C Q e a' w' ∧ Arrives P (lone (b.at a (.code c :: .inLoop c :: k)) cs w) b k cs e a' w' := by
    intro n
    induction n using Nat.strongRecOn with
    | _ n ih =>
      intro s ρ a w hn hI hs
      obtain ⟨e, a₁, w₁, ⟨ρ1, fr1, L1, s1, hq⟩, harr⟩ := vc_sound hT c _ ρ _ _ a w hs (step s hI) b (.inLoop c :: k) cs
      cases e with
      | normal =>
        obtain ⟨s', hI', hlt, bs, π, hle⟩ := hq
        obtain ⟨_, s2⟩ := s1.bren hT hD hle
        obtain ⟨e₂, a₂, w₂, hq₂, harr₂⟩ := ih (μ s') (hn ▸ hlt) s' _ a₁ w₁ rfl hI' s2
        exact ⟨e₂, a₂, w₂, hq₂, .of_steps (Steps.trans harr (.one step_inLoop)) harr₂⟩
      | exit id => exact ⟨_, a₁, w₁, ⟨ρ1, fr1, L1, s1, hq⟩, .pass (x := .inLoop c) rfl (fun _ _ => .inl (by simp)) harr⟩
      | goto l => exact ⟨_, a₁, w₁, ⟨ρ1, fr1, L1, s1, hq⟩, .pass (x := .inLoop c) rfl (fun _ _ => .inl (by simp)) harr⟩
      | ret => exact ⟨_, a₁, w₁, ⟨ρ1, fr1, L1, s1, hq⟩, .pass (x := .inLoop c) rfl (fun _ _ => .inl (by simp)) harr⟩
      | panic ch => exact ⟨_, a₁, w₁, ⟨ρ1, fr1, L1, s1, hq⟩, .pass (x := .inLoop c) rfl (fun _ _ => .inl (by simp)) harr⟩
      | outgrown => exact ⟨_, a₁, w₁, ⟨ρ1, fr1, L1, s1, hq⟩, .pass (x := .inLoop c) rfl (fun _ _ => .inl (by simp)) harr⟩
  obtain ⟨bs, π, hs⟩ := hs
  obtain ⟨_, s2⟩ := hst.bren hT hD hs
  obtain ⟨e, a', w', hq, harr⟩ := key _ s0 _ a w rfl h0 s2
  exact ⟨e, a', w', hq, .of_steps (.one step_loop) harr⟩
end

/-- A call whose arguments' nil slices are told as empty objects. -/
theorem callK_b {P : Program} {T : TyTab} (hT : TOk P T) {f : FuncId} {args : List AV} {L : List AObj} {K : AV → List AObj → Prop} (bs : List (TypeId × BLoc)) (h : brun T bs args L fun args L => callK P f args L K) : callK P f args L K := by
  have hc : ∀ (bs : List (TypeId × BLoc)) (args : List AV) (L : List AObj), brun T bs args L (fun args L => callK P f args L K) → Callable P f ∧ ∃ r L', K r L' := by
    intro bs
    induction bs with
    | nil => intro args L h; exact ⟨h.1, h.2.1⟩
    | cons b bs ih =>
      intro args L h
      obtain ⟨e, b⟩ := b
      cases b with
      | fr i p => rw [brun_fr] at h; obtain ⟨_, _, h⟩ := optK_ex h; exact ih _ _ h
      | cell o j => rw [brun_cell] at h; obtain ⟨_, _, h⟩ := optK_ex h; exact ih _ _ h
  obtain ⟨h1, h2⟩ := hc bs args L h
  refine ⟨h1, h2, ?_⟩
  intro ρ w vargs hsim hargs
  have hst : St P ⟨w, ownImg ρ (lh L), fun i => born (lh L) i, ρ⟩ ρ (lh L) [] { tmps := #[], defers := [] } w :=
    ⟨hsim, .nil, rfl, Kept.refl _ _, fun i hi => .inl ⟨i, hi, rfl⟩, fun i hi => ⟨rfl, hi⟩⟩
  obtain ⟨ρ1, args1, L1, s1, hx, hk, hold⟩ := brun_sound hT (D := fun _ => True) bs ρ args vargs L _ hst hargs h
  refine Calls.mono (hk.2.2 ρ1 w vargs s1.sim hx) ?_
  rintro e w' ⟨ρ', r, h', v, he, hK, hs, hv, hkept, hold2, hmine⟩
  have himg : ∀ k, ownImg ρ1 (lh L1) k → ownImg ρ (lh L) k ∨ w.heap.size ≤ k := by
    rintro k ⟨i, hi, rfl⟩; exact s1.mine i hi
  refine ⟨ρ', r, h', v, he, hK, hs, hv, ?_, fun i hi => ?_, fun i hi => ?_⟩
  · refine ⟨hkept.os, hkept.tape, hkept.output, hkept.size, fun k hk hn => hkept.block k hk fun ho => ?_⟩
    rcases himg k ho with h | h
    · exact hn h
    · omega
  · have h1 := hold i hi
    have h2 := hold2 i h1.1
    exact ⟨h2.1.trans h1.2, h2.2⟩
  · rcases hmine i hi with h | h
    · exact himg _ h
    · exact .inr h
end Go.Proofs.Ytbfefpkhalegmaa

set_option linter.unusedVariables false
set_option linter.unusedSimpArgs false
namespace Go.Proofs.Ytbfefpkhalegmaa
open Go

def roLe (L L' : List AObj) : Prop := ∀ i cs e, lh L' i = .ro cs e → lh L i = .ro cs e
theorem roLe.refl (L : List AObj) : roLe L L := fun _ _ _ h => h
theorem roSub_spec : ∀ (L' L : List AObj), roSub L' L → ∀ (i : Nat) cs e, L'[i]? = some (.ro cs e) → L[i]? = some (.ro cs e)
  | [], L, _, i, cs, e, hi => by simp at hi
  | o :: L', L, h, i, cs, e, hi => by
    have hsub : roSub L' L.tail := by
      cases o with
      | ro c e => exact h.2
      | _ => exact h
    cases i with
    | zero =>
      simp at hi; subst hi
      exact h.1
    | succ i =>
      have := roSub_spec L' L.tail hsub i cs e (by simpa using hi)
      cases L with
      | nil => simp at this
      | cons x L => simpa using this
theorem lh_ro {L : List AObj} {i : Nat} {cs : List AV} {e : TypeId} : lh L i = .ro cs e ↔ L[i]? = some (.ro cs e) := by
  simp only [lh, List.getD]
  cases L[i]? <;> simp
theorem fresh_roLe {n : Nat} {L L' : List AObj} (h : sameK (.fresh n) L L') : roLe L L' := by
  obtain ⟨h1, h2⟩ := h
  intro i cs e hi
  rw [lh_ro] at hi ⊢
  by_cases hn : i < n
  · have h3 : (L'.take n)[i]? = (L.take n)[i]? := by rw [h1]
    simp only [List.getElem?_take, hn, if_true] at h3
    rw [← h3]; exact hi
  · have h3 := roSub_spec _ _ h2 (i - n) cs e (by rw [List.getElem?_drop, show n + (i - n) = i by omega]; exact hi)
    rw [List.getElem?_drop, show n + (i - n) = i by omega] at h3
    exact h3

section
variable {P : Program} {T : TyTab} {all : List Oper} {us : Nat → List Nat} {kp : Nat → Keep} {fr : List AV} {L : List AObj} {K : List AV → List AObj → Prop}
theorem dstep_ro {i : Nat} {o : Oper} (h : dstep P T all us kp i o fr L K) (hf : clK (kp i) o.op = .w → ∃ n, kp i = .fresh n) :
    dstep P T all us kp i o fr L fun fr1 L1 => (K fr1 L1 ∧ roLe L L1) ∧ ∃ v, fr1 = putA fr o.dst v := by
  rcases dstep_two h with ⟨v, hv⟩ | ⟨hc, hw, hb⟩
  · have e := hv fr L (agr.refl o) (fun _ => .inl rfl)
    exact (e _).2 ⟨⟨(e K).1 h, .refl L⟩, v, rfl⟩
  · obtain ⟨n, hn⟩ := hf hc
    exact hb fr (agr.refl o) _ ((value_w o.op (clK_w hc) hw).2 _ fun v L' hx => ⟨hx.1, ⟨hx.2, fresh_roLe (hn ▸ hx.1)⟩, v, rfl⟩)
end

section
variable {P : Program} {T : TyTab} {C : Ctx} {us : Nat → List Nat} {kp : Nat → Keep} {ρ : Nat → Pl} {fr : List AV} {a : Act} {w : World} {L : List AObj}

theorem dstep_soundL (hT : TOk P T) {ops : Array Oper} {Q : Exit → Act → World → Prop} {K : List AV → List AObj → Prop} {next : Act → World → Prop} {i : Nat} {o : Oper} (hi : ops[i]? = some o)
    (s : St P C ρ (lh L) fr a w) (h : dstep P T ops.toList us kp i o fr L K) (hn : ∀ ρ fr L V w, St P C ρ (lh L) fr (a.put o.dst V) w → K fr L → next (a.put o.dst V) w) : wpOp P ops Q i next a w := by
  unfold wpOp
  rw [hi]
  simp only []
  have run : dop P T us kp i o.op fr L (fun v L' => K (putA fr o.dst v) L') → o.wp P a w next Q := by
    intro hk
    have hk' : aop P T o.op fr L fun v L' => K (putA fr o.dst v) L' := by
      unfold dop at hk
      split at hk
      · rename_i hc; exact aopV_aop hc hk
      · exact hk.2
      · rename_i hc; exact (value_w o.op (clK_w hc) hk).2 _ fun v L' hx => hx.2
    exact aop_sound hT s _ hk' fun ρ' v V L' w' s' h' => hn ρ' _ L' V w' s' h'
  have skip : K (putA fr o.dst (.tup [])) L → next (a.put o.dst undef) w := fun h' => hn ρ _ L _ w (s.put _ (.tup [] [] .nil)) h'
  unfold dstep gdK at h
  cases hg : o.guard with
  | none =>
    rw [hg] at h
    rw [if_pos (by simp [Region.wanted, hg])]
    exact .inl (run h)
  | some g =>
    obtain ⟨j, want⟩ := g
    rw [hg] at h
    simp only [] at h
    obtain ⟨oj, hj, k1⟩ := optK_ex h
    obtain ⟨d, hd, k2⟩ := optK_ex k1
    rcases guK_ex k2 with ⟨b, hb, k3⟩ | ⟨hb, k3⟩
    case inr =>
      rw [if_neg (by simp [Region.wanted, hg, yielded_not s.fr hj hd hb])]
      exact skip k3
    have hy := yielded_of s.fr hj hd hb
    by_cases hbw : b = want
    · subst hbw
      rw [if_pos (by simp [Region.wanted, hg, hy])]
      simp only [beq_self_eq_true, condK_true] at k3
      exact .inl (run k3)
    · rw [if_neg (by simp [Region.wanted, hg, hy, hbw])]
      have : (b == want) = false := by simpa using hbw
      rw [this, condK_false] at k3
      exact skip k3

theorem Sim.push {h : Heap} (s : Sim P ρ h w) (x : Obj) : Sim P ρ h { w with heap := w.heap.push x } := by
  have hsz : ∀ (b : Nat) (o : Obj), w.heap[b]? = some o → (w.heap.push x)[b]? = some o := by
    intro b o hb
    have := (Array.getElem?_eq_some_iff.1 hb).1
    rw [Array.getElem?_push, if_neg (by omega)]; exact hb
  have hcell : ∀ (a : Addr) V, w.cell? a = some V → ({ w with heap := w.heap.push x } : World).cell? a = some V := by
    intro a V hV
    simp only [World.cell?] at hV ⊢
    cases hb : w.heap[a.block]? with
    | none => simp [hb] at hV
    | some o => rw [hsz _ _ hb]; rw [hb] at hV; exact hV
  refine ⟨fun i cs e he => ?_, fun i cs e he => ?_, s.inj⟩
  · obtain ⟨h1, h2, h3, h4, h5⟩ := s.own i cs e he
    refine ⟨h1, h2, h3, h4, fun ht => ?_⟩
    obtain ⟨c', h5, h6, h7⟩ := h5 ht
    exact ⟨c', hsz _ _ h5, h6, h7⟩
  · obtain ⟨h1, h2⟩ := s.ro i cs e he
    exact ⟨h1, h2.mono (fun i hi => ⟨hi, rfl⟩) (fun _ _ _ hg => hcell _ _ hg)⟩

/-- A block that stands already is told. -/
theorem Sim.adopt {h : Heap} (s : Sim P ρ h w) {k b : Nat} (hk : h k = .unborn) (c : Array Value) (cs : List AV) (e : TypeId) (ti : TypeInfo) (hi : P.info? e = some ti)
    (hl : cs.length ≤ c.size) (hr : CRel (born h) ρ cs (fun j => c[j]?)) (hb : w.heap[b]? = some (.cells c e (0, 0))) (hf : ∀ i, held ρ h i → (ρ i).blk ≠ b) :
    Sim P (upd ρ k ⟨b, 0, true, c.size, ti.size⟩) (upd h k (.own cs e)) w := by
  have hB : ∀ i, born h i → born (upd h k (.own cs e)) i ∧ upd ρ k ⟨b, 0, true, c.size, ti.size⟩ i = ρ i := by
    intro i hi
    have hne : i ≠ k := fun e => by subst e; simp [born, hk, AObj.born] at hi
    exact ⟨by simpa [born, upd_ne _ _ hne] using hi, upd_ne _ _ hne⟩
  have hbk : ∀ i, i ≠ k → hasBlk (upd ρ k ⟨b, 0, true, c.size, ti.size⟩) (upd h k (.own cs e)) i → hasBlk ρ h i := by
    intro i hi x; unfold hasBlk at *; rwa [upd_ne _ _ hi, upd_ne _ _ hi] at x
  have hhd : ∀ i, i ≠ k → held (upd ρ k ⟨b, 0, true, c.size, ti.size⟩) (upd h k (.own cs e)) i → held ρ h i := by
    intro i hi x; unfold held hasBlk at *; rwa [upd_ne _ _ hi, upd_ne _ _ hi] at x
  refine ⟨fun i cs' e' he => ?_, fun i cs' e' he => ?_, fun i j hij hio hjl => ?_⟩
  · by_cases hik : i = k
    · subst hik
      rw [upd_same] at he
      injection he with h1 h2
      subst h1; subst h2
      rw [upd_same]
      exact ⟨rfl, rfl, ⟨ti, hi, rfl⟩, hl, fun _ => ⟨c, hb, rfl, hr.mono hB (fun _ _ _ hg => hg)⟩⟩
    · rw [upd_ne _ _ hik] at he
      obtain ⟨h1, h2, h3, h4, h5⟩ := s.own i cs' e' he
      rw [upd_ne _ _ hik]
      refine ⟨h1, h2, h3, h4, fun ht => ?_⟩
      obtain ⟨c', h5, h6, h7⟩ := h5 ht
      exact ⟨c', h5, h6, h7.mono hB (fun _ _ _ hg => hg)⟩
  · have hik : i ≠ k := fun e => by subst e; rw [upd_same] at he; simp at he
    rw [upd_ne _ _ hik] at he ⊢
    obtain ⟨h1, h2⟩ := s.ro i cs' e' he
    exact ⟨h1, h2.mono hB (fun _ _ _ hg => hg)⟩
  · by_cases hik : i = k
    · subst hik
      have hjk : j ≠ i := fun e => hij e.symm
      rw [upd_same, upd_ne _ _ hjk]
      exact fun e => hf j (hhd j hjk hjl) e.symm
    · by_cases hjk : j = k
      · subst hjk
        rw [upd_same, upd_ne _ _ hik]
        exact hf i (.inl (hbk i hik hio))
      · rw [upd_ne _ _ hjk, upd_ne _ _ hik]
        exact s.inj i j hij (hbk i hik hio) (hhd j hjk hjl)

theorem alloc_real (hT : TOk P T) {t : TypeId} {ti : TI} (ht : T t = some ti) : ∃ (i : TypeInfo) (c : Array Value), P.info? t = some i ∧ (∀ (B : Nat → Prop) (ρ : Nat → Pl), VsRel B ρ ti.zero c.toList) ∧
    ∀ w, (Instr.alloc t true (.tuple #[])).run P w = .ok (.pointer (some ⟨w.heap.size, 0, none⟩)) { w with heap := w.heap.push (.cells c t) } := by
  obtain ⟨i, hi, _, _⟩ := (hT t ti ht).run_info
  obtain ⟨z, hz, hzr⟩ := (hT t ti ht).run_zero
  exact ⟨i, z.cells, hi, fun B ρ => by rw [← hzr]; exact ofVals_rel _ _ _, fun w => by simp [Instr.alloc, hz, newVar, newRow]⟩

/-- What has been allocated and is not told yet. -/
structure Pend (P : Program) (T : TyTab) (C : Ctx) (ρ : Nat → Pl) (L : List AObj) (a : Act) (w : World) (o : Oper) (b : Nat) : Prop where
  ex : ∃ t ti i c, o.op = .alloc t ∧ T t = some ti ∧ P.info? t = some i ∧ (∀ (B : Nat → Prop) (ρ : Nat → Pl), VsRel B ρ ti.zero c.toList) ∧ a.put o.dst (.pointer (some ⟨b, 0, none⟩)) = a ∧ w.heap[b]? = some (.cells c t (0, 0))
  far : ∀ i, held ρ (lh L) i → (ρ i).blk ≠ b
  new : C.w0.heap.size ≤ b

theorem put_comm {d d' : Option Tmp} (h : ∀ x, d = some x → d' ≠ some x) (V V' : Value) (a : Act) : (a.put d V).put d' V' = (a.put d' V').put d V := by
  cases d with
  | none => rfl
  | some d =>
    cases d' with
    | none => rfl
    | some d' =>
      have hne : d ≠ d' := fun e => h d rfl (e ▸ rfl)
      simp only [Act.put]
      congr 1
      apply Array.ext_getElem?
      intro i
      simp only [Array.getElem?_setIfInBounds, Array.size_setIfInBounds]
      by_cases h1 : d = i <;> by_cases h2 : d' = i <;> simp_all

/-- A step's own context. -/
def ctx1 (ρ : Nat → Pl) (L : List AObj) (w : World) : Ctx := ⟨w, ownImg ρ (lh L), born (lh L), ρ⟩
theorem St.start (s : St P C ρ (lh L) fr a w) : St P (ctx1 ρ L w) ρ (lh L) fr a w :=
  ⟨s.sim, s.fr, s.defers, Kept.refl _ w, fun i hi => .inl ⟨i, hi, rfl⟩, fun i hi => ⟨rfl, hi⟩⟩
theorem St.back {ρ' : Nat → Pl} {L' : List AObj} {fr' : List AV} {a' : Act} {w' : World} (s : St P C ρ (lh L) fr a w) (s' : St P (ctx1 ρ L w) ρ' (lh L') fr' a' w') : St P C ρ' (lh L') fr' a' w' := by
  have hO : ∀ k, ownImg ρ (lh L) k → C.O k ∨ C.w0.heap.size ≤ k := by
    rintro k ⟨i, hi, rfl⟩; exact s.mine i hi
  refine ⟨s'.sim, s'.fr, s'.defers, s.kept.trans s'.kept hO, fun i hi => ?_, fun i hi => ?_⟩
  · rcases s'.mine i hi with h | h
    · exact hO _ h
    · exact .inr (Nat.le_trans s.kept.size h)
  · obtain ⟨h1, h2⟩ := s.old i hi
    obtain ⟨h3, h4⟩ := s'.old i h2
    exact ⟨h3.trans h1, h4⟩
theorem Pend.step {ρ' : Nat → Pl} {L' : List AObj} {fr' : List AV} {V : Value} {w' : World} {d : Option Tmp} {o : Oper} {b : Nat} (p : Pend P T C ρ L a w o b) (s : St P C ρ (lh L) fr a w)
    (s' : St P (ctx1 ρ L w) ρ' (lh L') fr' (a.put d V) w') (hro : roLe L L') (hd : ∀ x, d = some x → o.dst ≠ some x) : Pend P T C ρ' L' (a.put d V) w' o b := by
  obtain ⟨t, ti, i, c, h1, h2, h3, h4, h5, h6⟩ := p.ex
  have hlt : b < w.heap.size := (Array.getElem?_eq_some_iff.1 h6).1
  have hno : ¬ ownImg ρ (lh L) b := by
    rintro ⟨j, hj, hb⟩; exact p.far j (.inl hj) hb
  refine ⟨⟨t, ti, i, c, h1, h2, h3, h4, ?_, ?_⟩, ?_, p.new⟩
  · rw [put_comm hd, h5]
  · rw [s'.kept.block b hlt hno]; exact h6
  · intro j hj
    rcases hj with hj | ⟨cs, e, hj, hne⟩
    · rcases s'.mine j hj with h | h
      · exact fun e => hno (e ▸ h)
      · have h' : w.heap.size ≤ (ρ' j).blk := h
        omega
    · have h7 := hro j cs e hj
      have h8 := (s'.old j (by show born (lh L) j; exact born_of_live (by rw [h7]; trivial))).1
      rw [h8]
      exact p.far j (.inr ⟨cs, e, h7, hne⟩)

def junkAt (ds : List Nat) (fr : List AV) : List AV := match ds with | [] => fr | d :: ds => junkAt ds (putA fr (some d) .junk)
theorem St.junkAt {h : Heap} : ∀ (ds : List Nat) (fr : List AV), St P C ρ h fr a w → St P C ρ h (Go.Proofs.Ytbfefpkhalegmaa.junkAt ds fr) a w
  | [], fr, s => s
  | d :: ds, fr, s => by
    have : St P C ρ h (putA fr (some d) .junk) a w := by
      refine ⟨s.sim, ?_, s.defers, s.kept, s.mine, s.old⟩
      have h1 := s.fr
      simp only [putA]
      by_cases hd : d < a.tmps.toList.length
      · have h2 := h1.set d (.junk (a.tmps.toList[d]))
        rw [List.set_getElem_self] at h2
        exact h2
      · rw [List.set_eq_of_length_le (by rw [h1.length]; omega)]; exact h1
    exact St.junkAt ds _ this
theorem junkAt_get : ∀ (ds : List Nat) (fr : List AV) (d : Nat), (d ∈ ds ∨ fr.getD d .junk = .junk) → (junkAt ds fr).getD d .junk = .junk
  | [], fr, d, h => by rcases h with h | h; cases h; exact h
  | x :: ds, fr, d, h => by
    refine junkAt_get ds _ d ?_
    by_cases hx : x = d
    · subst hx
      right
      simp only [putA, List.getD, List.getElem?_set]
      by_cases hl : x < fr.length <;> simp [hl]
    · rcases h with h | h
      · left
        rcases List.mem_cons.1 h with h | h
        · exact absurd h.symm hx
        · exact h
      · right; rw [putA, getD_set_ne' fr .junk hx]; exact h
theorem set_junk {fr : List AV} {d : Nat} (h : fr.getD d .junk = .junk) : fr.set d .junk = fr := by
  by_cases hl : d < fr.length
  · have : fr[d] = .junk := by simpa [List.getD, hl] using h
    rw [← this, List.set_getElem_self]
  · exact List.set_eq_of_length_le (by omega)
end
end Go.Proofs.Ytbfefpkhalegmaa

set_option linter.unusedVariables false
set_option linter.unusedSimpArgs false
namespace Go.Proofs.Ytbfefpkhalegmaa
open Go

/-- The late ones: place, destination, type. -/
abbrev Late := List (Nat × Nat × TypeId)
def isLate (lt : Late) (i : Nat) : Bool := lt.any fun x => x.1 == i
def lateOk (l : List Oper) (lt : Late) (i : Nat) (o : Oper) : Bool :=
  (match o.op, o.dst, o.guard with
   | .alloc t, some d, none => lt.any (fun x => x.1 == i && x.2.1 == d && x.2.2 == t) && (tag 0 l).all (fun k => k.1 == i || k.2.dst != some d)
   | _, _, _ => false)
def isFresh : Keep → Bool | .fresh _ => true | _ => false
def planOkL (us : Nat → List Nat) (kp : Nat → Keep) (lt : Late) (l : List Oper) : Bool :=
  let an := ancs [] l
  (tag 0 l).all fun i => i.2.after.toList.all (fun e => !Region.binds .any e || decide (e.on < i.1)) &&
    (if isLate lt i.1 then lateOk l lt i.1 i.2 else
      (match clK (kp i.1) i.2.op with | .w => isFresh (kp i.1) | _ => true) &&
      (tag 0 l).all fun k => !decide (k.1 < i.1) ||
        (if isLate lt k.1 then
          (if (an.getD i.1 0).testBit k.1 then (tag 0 l).all fun k' => !decide (k'.1 < k.1) || (an.getD i.1 0).testBit k'.1 || swapOk l us kp k'.1 k'.2 k.1 k.2
           else swapOk l us kp k.1 k.2 i.1 i.2)
         else (an.getD i.1 0).testBit k.1 || swapOk l us kp k.1 k.2 i.1 i.2))
def lateK (T : TyTab) : Late → Prop → Prop
  | [], X => X
  | (_, _, t) :: lt, X => optK (T t) fun _ => lateK T lt X
theorem lateK_nil (T : TyTab) (X : Prop) : lateK T [] X = X := nrf rfl
theorem lateK_cons (T : TyTab) (i d : Nat) (t : TypeId) (lt : Late) (X : Prop) : lateK T ((i, d, t) :: lt) X = optK (T t) fun _ => lateK T lt X := nrf rfl
theorem junkAt_nil (fr : List AV) : junkAt [] fr = fr := nrf rfl
theorem junkAt_cons (d : Nat) (ds : List Nat) (fr : List AV) : junkAt (d :: ds) fr = junkAt ds (putA fr (some d) .junk) := nrf rfl
theorem lateK_ex {T : TyTab} : ∀ {lt : Late} {X : Prop}, lateK T lt X → X ∧ ∀ x ∈ lt, ∃ ti, T x.2.2 = some ti
  | [], X, h => ⟨h, fun x hx => by cases hx⟩
  | (i, d, t) :: lt, X, h => by
    obtain ⟨ti, ht, h1⟩ := optK_ex h
    obtain ⟨h2, h3⟩ := lateK_ex h1
    refine ⟨h2, fun x hx => ?_⟩
    rcases List.mem_cons.1 hx with rfl | hx
    · exact ⟨ti, ht⟩
    · exact h3 x hx

def remC (l : List Oper) (com : Nat → Bool) : List (Nat × Oper) := (tag 0 l).filter fun p => !com p.1
theorem remC_sorted (l : List Oper) (com : Nat → Bool) : (remC l com).Pairwise fun p q => p.1 < q.1 := (tag_sorted l 0).filter _
theorem mem_remC {l : List Oper} {com : Nat → Bool} {i : Nat} {o : Oper} : (i, o) ∈ remC l com ↔ l[i]? = some o ∧ com i = false := by
  unfold remC
  rw [List.mem_filter, mem_tag]
  simp
theorem remC_set {l : List Oper} {com : Nat → Bool} {i : Nat} {o : Oper} {pre post : List (Nat × Oper)} (hr : remC l com = pre ++ (i, o) :: post) : remC l (upd com i true) = pre ++ post := by
  have hs := remC_sorted l com
  have e : remC l (upd com i true) = (remC l com).filter fun p => p.1 != i := by
    unfold remC
    rw [List.filter_filter]
    apply List.filter_congr
    intro p _
    by_cases h : p.1 = i
    · rw [h, upd_same]; simp
    · rw [upd_ne _ _ h]; simp [h]
  rw [e, hr]
  rw [hr, List.pairwise_append] at hs
  obtain ⟨_, h2, h3⟩ := hs
  rw [List.pairwise_cons] at h2
  rw [List.filter_append, List.filter_cons]
  simp only [bne_self_eq_false, Bool.false_eq_true, if_false]
  congr 1
  · apply List.filter_eq_self.2
    intro p hp
    have := h3 p hp (i, o) (List.mem_cons_self ..)
    simp at this ⊢; omega
  · apply List.filter_eq_self.2
    intro p hp
    have := h2.1 p hp
    simp at this ⊢; omega
theorem remC_pre {l : List Oper} {com : Nat → Bool} {i k : Nat} {o p : Oper} {pre post : List (Nat × Oper)} (hr : remC l com = pre ++ (i, o) :: post) (hk : (k, p) ∈ pre) : k < i ∧ l[k]? = some p ∧ com k = false := by
  have hs := remC_sorted l com
  rw [hr, List.pairwise_append] at hs
  have hm : (k, p) ∈ remC l com := by rw [hr]; exact List.mem_append_left _ hk
  obtain ⟨h1, h2⟩ := mem_remC.1 hm
  exact ⟨hs.2.2 _ hk _ (List.mem_cons_self ..), h1, h2⟩

section
variable {P : Program} {T : TyTab} {C : Ctx} {us : Nat → List Nat} {kp : Nat → Keep} {ρ : Nat → Pl} {fr : List AV} {a : Act} {w : World} {L : List AObj}

/-- The walk stands at com, the program at listed. -/
structure LSt (P : Program) (T : TyTab) (C : Ctx) (l : List Oper) (lt : Late) (com : Nat → Bool) (listed : Array Bool) (B : Nat → Nat) (ρ : Nat → Pl) (fr : List AV) (L : List AObj) (a : Act) (w : World) : Prop where
  st : St P C ρ (lh L) fr a w
  sub : ∀ m o, l[m]? = some o → com m = true → listed.getD m false = true
  late : ∀ m o, l[m]? = some o → listed.getD m false = true → com m = false → isLate lt m = true
  junk : ∀ m o d, l[m]? = some o → isLate lt m = true → com m = false → o.dst = some d → fr.getD d .junk = .junk
  pend : ∀ m o, l[m]? = some o → listed.getD m false = true → com m = false → Pend P T C ρ L a w o (B m)
  inj : ∀ m m' o o', l[m]? = some o → l[m']? = some o' → listed.getD m false = true → com m = false → listed.getD m' false = true → com m' = false → m ≠ m' → B m ≠ B m'

/-- One that stands is told. -/
theorem commit1 {l : List Oper} {lt : Late} {com : Nat → Bool} {listed : Array Bool} {B : Nat → Nat} {Q : List AV → List AObj → Prop} {k : Nat} {o : Oper} {pre post : List (Nat × Oper)}
    (hl : ∀ m o, l[m]? = some o → isLate lt m = true → lateOk l lt m o = true)
    (s : LSt P T C l lt com listed B ρ fr L a w) (hr : remC l com = pre ++ (k, o) :: post) (hk : listed.getD k false = true) (hpre : ∀ p ∈ pre, swapOk l us kp p.1 p.2 k o = true)
    (h : DOps P T l us kp (remC l com) Q fr L) :
    ∃ ρ' fr' L', LSt P T C l lt (upd com k true) listed B ρ' fr' L' a w ∧ DOps P T l us kp (remC l (upd com k true)) Q fr' L' := by
  have hmem : (k, o) ∈ remC l com := by rw [hr]; exact List.mem_append_right _ (List.mem_cons_self ..)
  obtain ⟨hok, hck⟩ := mem_remC.1 hmem
  have hlate := s.late k o hok hk hck
  have hlo := hl k o hok hlate
  have hp := s.pend k o hok hk hck
  obtain ⟨t, ti, i, c, h1, h2, h3, h4, h5, h6⟩ := hp.ex
  unfold lateOk at hlo
  rw [h1] at hlo
  split at hlo
  case h_2 => simp at hlo
  case h_1 t' d hop hd hg =>
  injection hop with hop
  subst hop
  rw [hr] at h
  have hf := DOps_front pre fr L hpre h
  rw [DOps_cons] at hf
  unfold dstep gdK at hf
  rw [hg, h1] at hf
  have hf' : aop P T (.alloc t) fr L fun v L' => chk (sameK (kp k) L L') (DOps P T l us kp (pre ++ post) Q (putA fr o.dst v) L') := hf
  have hf2 : optK (T t) fun ti => chk (sameK (kp k) L (L ++ [.own ti.zero t])) (DOps P T l us kp (pre ++ post) Q (putA fr o.dst (.ptr L.length 0)) (L ++ [.own ti.zero t])) := hf'
  rw [h2] at hf2
  have hf3 := hf2.2
  have hne : ∀ j, born (lh L) j → j ≠ L.length := fun j hj e => by subst e; simp [born, lh_unborn, AObj.born] at hj
  let ρ' := upd ρ L.length (⟨B k, 0, true, c.size, i.size⟩ : Pl)
  have hz := h4 (born (lh L)) ρ
  have hzl : ti.zero.length = c.size := by simpa using hz.length
  have sim' := s.st.sim.adopt (lh_unborn L) c ti.zero t i h3 (by omega) (.of_VsRel hz) h6 hp.far
  rw [← lh_append] at sim'
  have hBm : ∀ j, born (lh L) j → born (lh (L ++ [.own ti.zero t])) j ∧ ρ' j = ρ j := by
    intro j hj
    exact ⟨by rw [lh_append]; exact born_own hj, upd_ne _ _ (hne j hj)⟩
  have st' : St P C ρ' (lh (L ++ [.own ti.zero t])) fr a w := by
    refine s.st.next sim' hBm (Kept.refl (fun _ => False) w) (fun _ h => h.elim) ?_
    intro j hj
    by_cases hjn : j = L.length
    · subst hjn; right; show C.w0.heap.size ≤ (upd ρ L.length (⟨B k, 0, true, c.size, i.size⟩ : Pl) L.length).blk; rw [upd_same]; exact hp.new
    · have : hasBlk ρ (lh L) j := by
        have hj' : hasBlk (upd ρ L.length (⟨B k, 0, true, c.size, i.size⟩ : Pl)) (lh (L ++ [.own ti.zero t])) j := hj
        rw [lh_append] at hj'
        unfold hasBlk at *; rwa [upd_ne _ _ hjn, upd_ne _ _ hjn] at hj'
      have e : ρ' j = ρ j := upd_ne _ _ hjn
      rw [e]; exact s.st.mine j this
  have hb : born (lh (L ++ [.own ti.zero t])) L.length := by rw [lh_append]; simp [born, upd_same, AObj.born]
  have hρ : ρ' L.length = ⟨B k, 0, true, c.size, i.size⟩ := upd_same _ _ _
  have st2 := st'.put o.dst (.ptr L.length 0 hb)
  rw [hρ] at st2
  rw [h5] at st2
  refine ⟨ρ', _, _, ⟨st2, ?_, ?_, ?_, ?_, ?_⟩, by rw [remC_set hr]; exact hf3⟩
  · intro m o' hm hc
    by_cases hmk : m = k
    · subst hmk; exact hk
    · rw [upd_ne _ _ hmk] at hc; exact s.sub m o' hm hc
  · intro m o' hm hlm hc
    by_cases hmk : m = k
    · subst hmk; rw [upd_same] at hc; cases hc
    · rw [upd_ne _ _ hmk] at hc; exact s.late m o' hm hlm hc
  · intro m o' d' hm hlm hc hd'
    by_cases hmk : m = k
    · subst hmk; rw [upd_same] at hc; cases hc
    · rw [upd_ne _ _ hmk] at hc
      have h0 := s.junk m o' d' hm hlm hc hd'
      rw [hd, putA]
      rw [getD_set_ne' fr _ ?_]
      · exact h0
      · intro e
        subst e
        rw [Bool.and_eq_true, List.all_eq_true] at hlo
        have := hlo.2 (m, o') (mem_tag.2 ⟨Nat.zero_le _, by simpa using hm⟩)
        simp [hmk, hd'] at this
  · intro m o' hm hlm hc
    by_cases hmk : m = k
    · subst hmk; rw [upd_same] at hc; cases hc
    · rw [upd_ne _ _ hmk] at hc
      have hpm := s.pend m o' hm hlm hc
      refine ⟨hpm.ex, ?_, hpm.new⟩
      intro j hj
      by_cases hjn : j = L.length
      · subst hjn
        rw [hρ]
        exact s.inj k m o o' hok hm hk hck hlm hc (Ne.symm hmk)
      · show (upd ρ L.length (⟨B k, 0, true, c.size, i.size⟩ : Pl) j).blk ≠ B m
        rw [upd_ne _ _ hjn]
        refine hpm.far j ?_
        have hj' : held (upd ρ L.length (⟨B k, 0, true, c.size, i.size⟩ : Pl)) (lh (L ++ [.own ti.zero t])) j := hj
        rw [lh_append] at hj'
        unfold held hasBlk at *; rwa [upd_ne _ _ hjn, upd_ne _ _ hjn] at hj'
  · intro m m' o1 o2 hm hm' a1 a2 a3 a4 a5
    have e1 : com m = false := by
      by_cases hmk : m = k
      · subst hmk; rw [upd_same] at a2; cases a2
      · rwa [upd_ne _ _ hmk] at a2
    have e2 : com m' = false := by
      by_cases hmk : m' = k
      · subst hmk; rw [upd_same] at a4; cases a4
      · rwa [upd_ne _ _ hmk] at a4
    exact s.inj m m' o1 o2 hm hm' a1 e1 a3 e2 a5

/-- All that stand of a kind are told. -/
theorem commitA {l : List Oper} {lt : Late} {listed : Array Bool} {B : Nat → Nat} {Q : List AV → List AObj → Prop} (A : Nat → Bool)
    (hl : ∀ m o, l[m]? = some o → isLate lt m = true → lateOk l lt m o = true)
    (hA : ∀ m o, l[m]? = some o → A m = true → listed.getD m false = true)
    (hS : ∀ k o k' o', l[k]? = some o → l[k']? = some o' → A k = true → isLate lt k = true → k' < k → A k' = true ∨ (isLate lt k' = false ∧ listed.getD k' false = true) ∨ swapOk l us kp k' o' k o = true) :
    ∀ (n : Nat) (com : Nat → Bool) (ρ : Nat → Pl) (fr : List AV) (L : List AObj), ((remC l com).filter fun p => A p.1).length ≤ n → LSt P T C l lt com listed B ρ fr L a w → DOps P T l us kp (remC l com) Q fr L →
    ∃ com' ρ' fr' L', LSt P T C l lt com' listed B ρ' fr' L' a w ∧ DOps P T l us kp (remC l com') Q fr' L' ∧ (∀ m o, l[m]? = some o → A m = true → com' m = true) ∧ (∀ m, com' m = true → com m = true ∨ A m = true) ∧ (∀ m, com m = true → com' m = true) := by
  intro n
  induction n with
  | zero =>
    intro com ρ fr L hn s h
    have h0 : (remC l com).filter (fun p => A p.1) = [] := List.eq_nil_of_length_eq_zero (by omega)
    refine ⟨com, ρ, fr, L, s, h, fun m o hm hAm => ?_, fun m hm => .inl hm, fun m hm => hm⟩
    cases hc : com m with
    | true => rfl
    | false =>
      have : (m, o) ∈ (remC l com).filter (fun p => A p.1) := List.mem_filter.2 ⟨mem_remC.2 ⟨hm, hc⟩, hAm⟩
      rw [h0] at this; cases this
  | succ n ih =>
    intro com ρ fr L hn s h
    cases hf : (remC l com).filter (fun p => A p.1) with
    | nil =>
      refine ⟨com, ρ, fr, L, s, h, fun m o hm hAm => ?_, fun m hm => .inl hm, fun m hm => hm⟩
      cases hc : com m with
      | true => rfl
      | false =>
        have : (m, o) ∈ (remC l com).filter (fun p => A p.1) := List.mem_filter.2 ⟨mem_remC.2 ⟨hm, hc⟩, hAm⟩
        rw [hf] at this; cases this
    | cons x rest =>
      obtain ⟨k, o⟩ := x
      obtain ⟨pre, post, hr, hpreA, hAk, hpost⟩ := List.filter_eq_cons_iff.1 hf
      have hmem : (k, o) ∈ remC l com := by rw [hr]; exact List.mem_append_right _ (List.mem_cons_self ..)
      obtain ⟨hok, hck⟩ := mem_remC.1 hmem
      have hkl := hA k o hok hAk
      obtain ⟨ρ1, fr1, L1, s1, h1⟩ := commit1 (us := us) (kp := kp) hl s hr hkl (by
        rintro ⟨k', o'⟩ hk'
        obtain ⟨hlt, ho', hc'⟩ := remC_pre hr hk'
        rcases hS k o k' o' hok ho' hAk (s.late k o hok hkl hck) hlt with h' | h' | h'
        · exact absurd h' (hpreA _ hk')
        · have := s.late k' o' ho' h'.2 hc'
          rw [h'.1] at this; cases this
        · exact h') h
      have hlen : ((remC l (upd com k true)).filter fun p => A p.1).length ≤ n := by
        rw [remC_set hr, List.filter_append, hpost]
        rw [List.filter_eq_nil_iff.2 hpreA, List.nil_append]
        rw [hf] at hn
        simpa using hn
      obtain ⟨com', ρ', fr', L', a1, a2, a3, a4, a5⟩ := ih _ ρ1 fr1 L1 hlen s1 h1
      refine ⟨com', ρ', fr', L', a1, a2, a3, fun m hm => ?_, fun m hm => a5 m ?_⟩
      · rcases a4 m hm with h' | h'
        · by_cases hmk : m = k
          · subst hmk; exact .inr hAk
          · rw [upd_ne _ _ hmk] at h'; exact .inl h'
        · exact .inr h'
      · by_cases hmk : m = k
        · subst hmk; exact upd_same _ _ _
        · rw [upd_ne _ _ hmk]; exact hm

theorem any_soundL (hT : TOk P T) {ops : Array Oper} {lt : Late} (hp : planOkL us kp lt ops.toList = true) (hty : ∀ x ∈ lt, ∃ ti, T x.2.2 = some ti) {Q : List AV → List AObj → Prop} {Q' : Exit → Act → World → Prop}
    (hQ : ∀ ρ fr L a w, St P C ρ (lh L) fr a w → Q fr L → Q' .normal a w) : ∀ (n : Nat) (listed : Array Bool) (com : Nat → Bool) (B : Nat → Nat) (ρ : Nat → Pl) (fr : List AV) (L : List AObj) (a : Act) (w : World),
    listed.size = ops.size → (remOf ops.toList listed).length ≤ n →
    (∀ m o, ops.toList[m]? = some o → listed.getD m false = true → ∀ e ∈ o.after.toList, Region.binds .any e = true → listed.getD e.on false = true) →
    LSt P T C ops.toList lt com listed B ρ fr L a w → DOps P T ops.toList us kp (remC ops.toList com) Q fr L → wpAny P .any ops Q' n listed a w := by
  unfold planOkL at hp
  simp only [List.all_eq_true, Bool.and_eq_true, Bool.or_eq_true, Bool.not_eq_true', decide_eq_true_eq, decide_eq_false_iff_not] at hp
  have hl : ∀ m o, ops.toList[m]? = some o → isLate lt m = true → lateOk ops.toList lt m o = true := by
    intro m o hm hlm
    have := (hp (m, o) (mem_tag.2 ⟨Nat.zero_le _, by simpa using hm⟩)).2
    simpa [hlm] using this
  have done : ∀ (listed : Array Bool) (i : Nat) (o : Oper), listed.size = ops.size → ops.toList[i]? = some o → listed.getD i true = false ∨ listed.getD i false = true := by
    intro listed i o hsz ho
    have := (List.getElem?_eq_some_iff.1 ho).1
    have hlt : i < listed.size := by simpa [hsz] using this
    simp [hlt]
  have ends : ∀ (listed : Array Bool) (com : Nat → Bool) (B : Nat → Nat) (ρ : Nat → Pl) (fr : List AV) (L : List AObj) (a : Act) (w : World), listed.size = ops.size → remOf ops.toList listed = [] →
      LSt P T C ops.toList lt com listed B ρ fr L a w → DOps P T ops.toList us kp (remC ops.toList com) Q fr L → Q' .normal a w := by
    intro listed com B ρ fr L a w hsz h0 s h
    obtain ⟨com', ρ', fr', L', s', h', hall, _, _⟩ := commitA (us := us) (kp := kp) (fun _ => true) hl (fun m o hm _ => by
      rcases done listed m o hsz hm with h' | h'
      · exfalso
        have : (m, o) ∈ remOf ops.toList listed := List.mem_filter.2 ⟨mem_tag.2 ⟨Nat.zero_le _, by simpa using hm⟩, by simp only [h']; rfl⟩
        rw [h0] at this; cases this
      · exact h') (fun _ _ _ _ _ _ _ _ _ => .inl rfl) _ com ρ fr L (Nat.le_refl _) s h
    have : remC ops.toList com' = [] := by
      apply List.eq_nil_iff_forall_not_mem.2
      rintro ⟨m, o⟩ hm
      obtain ⟨h1, h2⟩ := mem_remC.1 hm
      rw [hall m o h1 rfl] at h2; cases h2
    rw [this] at h'
    exact hQ ρ' fr' L' a w s'.st h'
  intro n
  induction n with
  | zero =>
    intro listed com B ρ fr L a w hsz hn hd s h
    have h0 : remOf ops.toList listed = [] := List.eq_nil_of_length_eq_zero (by omega)
    refine ⟨?_, ends listed com B ρ fr L a w hsz h0 s h⟩
    apply List.eq_nil_iff_forall_not_mem.2
    intro j hj
    obtain ⟨hu, o, ho, _⟩ := mem_ready.1 hj
    have : (j, o) ∈ remOf ops.toList listed := List.mem_filter.2 ⟨mem_tag.2 ⟨Nat.zero_le _, by simpa using ho⟩, by simp only [hu]; rfl⟩
    rw [h0] at this; cases this
  | succ n ih =>
    intro listed com B ρ fr L a w hsz hn hd s h
    refine ⟨fun hr => ?_, fun i hi => ?_⟩
    · refine ends listed com B ρ fr L a w hsz ?_ s h
      cases hrem : remOf ops.toList listed with
      | nil => rfl
      | cons p rest =>
        exfalso
        obtain ⟨i, o⟩ := p
        have hmem : (i, o) ∈ remOf ops.toList listed := by rw [hrem]; exact List.mem_cons_self ..
        obtain ⟨hm1, hm2⟩ := List.mem_filter.1 hmem
        have ho := (mem_tag.1 hm1).2
        have hun : listed.getD i true = false := by simpa using hm2
        have : i ∈ Region.ready .any ops listed := by
          refine mem_ready.2 ⟨hun, o, by simpa using ho, fun e he hb => ?_⟩
          have hlt : e.on < i := by
            rcases (hp (i, o) hm1).1 e (by simpa using he) with h' | h'
            · rw [hb] at h'; cases h'
            · exact h'
          have hil := (List.getElem?_eq_some_iff.1 ho).1
          have hoe : ops.toList[e.on]? = some ops.toList[e.on] := List.getElem?_eq_getElem (by omega)
          rcases done listed e.on _ hsz hoe with hu | hu
          · exfalso
            have hme : (e.on, ops.toList[e.on]) ∈ remOf ops.toList listed := List.mem_filter.2 ⟨mem_tag.2 ⟨Nat.zero_le _, by rw [Nat.sub_zero]; exact hoe⟩, by simp only [hu]; rfl⟩
            have hs : (remOf ops.toList listed).Pairwise fun p q => p.1 < q.1 := (tag_sorted ops.toList 0).filter _
            rw [hrem] at hme hs
            rcases List.mem_cons.1 hme with he' | he'
            · have := congrArg Prod.fst he'; simp at this; omega
            · have := (List.pairwise_cons.1 hs).1 _ he'; simp at this; omega
          · exact hu
        rw [hr] at this; cases this
    · obtain ⟨hun, o, ho, hall⟩ := mem_ready.1 hi
      have ho' : ops.toList[i]? = some o := by simpa using ho
      have hm1 : (i, o) ∈ tag 0 ops.toList := mem_tag.2 ⟨Nat.zero_le _, ho'⟩
      have hil : i < listed.size := by have := (List.getElem?_eq_some_iff.1 ho').1; simpa [hsz] using this
      have hunf : listed.getD i false = false := by simp [hil] at hun ⊢; exact hun
      have hmemr : (i, o) ∈ remOf ops.toList listed := List.mem_filter.2 ⟨hm1, by simp only [hun]; rfl⟩
      obtain ⟨rpre, rpost, hrem⟩ := List.append_of_mem hmemr
      have hrset := remOf_set hil hrem
      have hlen : (remOf ops.toList (listed.setIfInBounds i true)).length ≤ n := by
        rw [hrset]; rw [hrem] at hn; simp at hn ⊢; omega
      have hall' : ∀ e ∈ o.after.toList, Region.binds .any e = true → listed.getD e.on false = true := fun e he hb => hall e (by simpa using he) hb
      have hd' : ∀ m om, ops.toList[m]? = some om → (listed.setIfInBounds i true).getD m false = true → ∀ e ∈ om.after.toList, Region.binds .any e = true → (listed.setIfInBounds i true).getD e.on false = true := by
        intro m om hom hml e he hb
        by_cases hmi : m = i
        · subst hmi
          rw [ho'] at hom
          cases hom
          exact getD_set_true (hall' e he hb)
        · rw [getD_set_ne false (Ne.symm hmi)] at hml
          exact getD_set_true (hd m om hom hml e he hb)
      have hci : com i = false := by
        cases hc : com i with
        | false => rfl
        | true => rw [s.sub i o ho' hc] at hunf; cases hunf
      have hself : (listed.setIfInBounds i true).getD i false = true := by simp [hil]
      cases hlt : isLate lt i with
      | true =>
        -- it is allocated, and told later
        have hlo := hl i o ho' hlt
        unfold lateOk at hlo
        split at hlo
        case h_2 => cases hlo
        case h_1 t d hop hdst hg =>
        rw [Bool.and_eq_true, List.any_eq_true, List.all_eq_true] at hlo
        obtain ⟨⟨x, hx, hxx⟩, hother⟩ := hlo
        simp only [Bool.and_eq_true, beq_iff_eq] at hxx
        obtain ⟨ti, hti⟩ := hty x hx
        rw [hxx.2] at hti
        obtain ⟨inf, c, h3, h4, hrun⟩ := alloc_real hT hti
        unfold wpOp
        rw [ho]
        simp only []
        rw [if_pos (by simp [Region.wanted, hg])]
        left
        unfold Oper.wp
        have hex : execOp a.eval o = (do pure (Next.value (← Instr.alloc t true (.tuple #[])))) := by
          obtain ⟨dst, op, ty, pos, af, gd⟩ := o
          simp only at hop hdst hg
          subst hop
          rfl
        rw [hex]
        simp only [Sem.run_bind, hrun, Result.andThen_ok, Sem.run_pure]
        show wpAny P .any ops Q' n (listed.setIfInBounds i true) (a.put o.dst (.pointer (some ⟨w.heap.size, 0, none⟩))) { w with heap := w.heap.push (.cells c t) }
        have hfr : fr.getD d .junk = .junk := s.junk i o d ho' hlt hci hdst
        have stp : St P C ρ (lh L) fr a { w with heap := w.heap.push (.cells c t) } :=
          s.st.next (s.st.sim.push _) (fun j hj => ⟨hj, rfl⟩) (Kept.push (fun _ => False) w _) (fun _ h => h.elim) s.st.mine
        have stq := stp.put (some d) (v := .junk) (V := .pointer (some ⟨w.heap.size, 0, none⟩)) (.junk _)
        rw [putA, set_junk hfr] at stq
        rw [← hdst] at stq
        have hne : ∀ m o', ops.toList[m]? = some o' → m ≠ i → o'.dst ≠ some d := by
          intro m o' hm hmi e
          have := hother (m, o') (mem_tag.2 ⟨Nat.zero_le _, by simpa using hm⟩)
          simp [hmi, e] at this
        refine ih (listed.setIfInBounds i true) com (upd B i w.heap.size) ρ fr L _ _ (by simpa using hsz) hlen hd' ⟨stq, ?_, ?_, ?_, ?_, ?_⟩ h
        · intro m o' hm hc
          exact getD_set_true (s.sub m o' hm hc)
        · intro m o' hm hml hc
          by_cases hmi : m = i
          · subst hmi; exact hlt
          · rw [getD_set_ne false (Ne.symm hmi)] at hml; exact s.late m o' hm hml hc
        · exact s.junk
        · intro m o' hm hml hc
          by_cases hmi : m = i
          · subst hmi
            rw [ho'] at hm; cases hm
            rw [upd_same]
            refine ⟨⟨t, ti, inf, c, hop, hti, h3, h4, ?_, by simp⟩, ?_, s.st.kept.size⟩
            · rw [hdst]
              simp only [Act.put]
              congr 1
              apply Array.ext_getElem?
              intro j
              simp only [Array.getElem?_setIfInBounds, Array.size_setIfInBounds]
              by_cases h1 : d = j <;> simp_all
            · intro j hj e
              have := s.st.sim.held_lt hj
              omega
          · rw [getD_set_ne false (Ne.symm hmi)] at hml
            rw [upd_ne _ _ hmi]
            have hpm := s.pend m o' hm hml hc
            obtain ⟨t', ti', i', c', e1, e2, e3, e4, e5, e6⟩ := hpm.ex
            have hbl : B m < w.heap.size := (Array.getElem?_eq_some_iff.1 e6).1
            refine ⟨⟨t', ti', i', c', e1, e2, e3, e4, ?_, ?_⟩, hpm.far, hpm.new⟩
            · rw [put_comm (d := o.dst) (d' := o'.dst) (fun y hy => by rw [hdst] at hy; cases hy; exact hne m o' hm hmi), e5]
            · show (w.heap.push (.cells c t))[B m]? = _
              rw [Array.getElem?_push, if_neg (by omega)]; exact e6
        · intro m m' o1 o2 hm hm' b1 b2 b3 b4 b5
          have fact : ∀ m o', ops.toList[m]? = some o' → (listed.setIfInBounds i true).getD m false = true → com m = false → m ≠ i → B m < w.heap.size := by
            intro m o' hm hml hc hmi
            rw [getD_set_ne false (Ne.symm hmi)] at hml
            obtain ⟨_, _, _, _, _, _, _, _, _, e6⟩ := (s.pend m o' hm hml hc).ex
            exact (Array.getElem?_eq_some_iff.1 e6).1
          by_cases hmi : m = i
          · subst hmi
            have hm'i : m' ≠ m := Ne.symm b5
            rw [upd_same, upd_ne _ _ hm'i]
            have := fact m' o2 hm' b3 b4 hm'i
            omega
          · by_cases hmi' : m' = i
            · subst hmi'
              rw [upd_same, upd_ne _ _ hmi]
              have := fact m o1 hm b1 b2 hmi
              omega
            · rw [upd_ne _ _ hmi, upd_ne _ _ hmi']
              rw [getD_set_ne false (Ne.symm hmi)] at b1
              rw [getD_set_ne false (Ne.symm hmi')] at b3
              exact s.inj m m' o1 o2 hm hm' b1 b2 b3 b4 b5
      | false =>
        have hpi := (hp (i, o) hm1).2
        simp only [hlt, Bool.false_eq_true, if_false, Bool.and_eq_true, List.all_eq_true, Bool.or_eq_true, Bool.not_eq_true', decide_eq_false_iff_not] at hpi
        obtain ⟨hfresh, hpair⟩ := hpi
        let A : Nat → Bool := fun k => ((ancs [] ops.toList).getD i 0).testBit k && isLate lt k && decide (k < i)
        have hanc : ∀ k, ((ancs [] ops.toList).getD i 0).testBit k = true → listed.getD k false = true := fun k hk =>
          ancs_down (D := fun m => listed.getD m false = true) (l := ops.toList) hd ops.toList [] [] rfl rfl (fun i o hi => by simp at hi) i o ho' hall' k hk
        obtain ⟨com1, ρ1, fr1, L1, s1, h1, c1, c2, c3⟩ := commitA (us := us) (kp := kp) A hl (fun m om _ hAm => by
            simp only [A, Bool.and_eq_true] at hAm; exact hanc m hAm.1.1) (by
            intro k ok k' ok' hk hk' hAk hlk hlt'
            simp only [A, Bool.and_eq_true, decide_eq_true_eq] at hAk
            have := hpair (k, ok) (mem_tag.2 ⟨Nat.zero_le _, by simpa using hk⟩)
            rcases this with h' | h'
            · exact absurd hAk.2 h'
            · simp only [hlk, if_true, hAk.1.1, List.all_eq_true] at h'
              have h2 := h' (k', ok') (mem_tag.2 ⟨Nat.zero_le _, by simpa using hk'⟩)
              simp only [Bool.or_eq_true, Bool.not_eq_true', decide_eq_false_iff_not] at h2
              rcases h2 with (h2 | h2) | h2
              · exact absurd hlt' h2
              · cases hlk' : isLate lt k' with
                | true => left; simp only [A, Bool.and_eq_true, decide_eq_true_eq]; exact ⟨⟨h2, hlk'⟩, by omega⟩
                | false => exact .inr (.inl ⟨rfl, hanc k' h2⟩)
              · exact .inr (.inr h2)) _ com ρ fr L (Nat.le_refl _) s h
        have hci1 : com1 i = false := by
          cases hc : com1 i with
          | false => rfl
          | true =>
            rcases c2 i hc with h' | h'
            · rw [hci] at h'; cases h'
            · simp [A] at h'
        have hmem1 : (i, o) ∈ remC ops.toList com1 := mem_remC.2 ⟨ho', hci1⟩
        obtain ⟨pre, post, hr1⟩ := List.append_of_mem hmem1
        have hpre : ∀ p ∈ pre, swapOk ops.toList us kp p.1 p.2 i o = true := by
          rintro ⟨k, p⟩ hk
          obtain ⟨hki, hkp, hkc⟩ := remC_pre hr1 hk
          have hkt := mem_tag.2 (⟨Nat.zero_le _, by simpa using hkp⟩ : 0 ≤ k ∧ ops.toList[k - 0]? = some p)
          rcases hpair (k, p) hkt with h' | h'
          · exact absurd hki h'
          · cases hlk : isLate lt k with
            | true =>
              simp only [hlk, if_true] at h'
              split at h'
              · rename_i hbit
                rw [c1 k p hkp (by simp only [A, Bool.and_eq_true, decide_eq_true_eq]; exact ⟨⟨hbit, hlk⟩, hki⟩)] at hkc
                cases hkc
              · exact h'
            | false =>
              simp only [hlk, Bool.false_eq_true, if_false, Bool.or_eq_true] at h'
              rcases h' with h' | h'
              · exfalso
                have hkl := hanc k h'
                have hkc0 : com k = false := by
                  cases hc : com k with
                  | false => rfl
                  | true => rw [c3 k hc] at hkc; cases hkc
                have := s.late k p hkp hkl hkc0
                rw [hlk] at this; cases this
              · exact h'
        rw [hr1] at h1
        have hf := DOps_front pre fr1 L1 hpre h1
        rw [DOps_cons] at hf
        have hfr : clK (kp i) o.op = .w → ∃ n, kp i = .fresh n := by
          intro hc
          simp only [hc] at hfresh
          cases hk : kp i <;> simp [hk, isFresh] at hfresh
          exact ⟨_, rfl⟩
        refine dstep_soundL hT ho s1.st.start (dstep_ro hf hfr) fun ρ' fr' L' V w' s' h' => ?_
        obtain ⟨⟨h', hro⟩, v, hv⟩ := h'
        have hdd : ∀ m om, ops.toList[m]? = some om → isLate lt m = true → ∀ d, om.dst = some d → o.dst ≠ some d := by
          intro m om hm hlm d hd e
          have hlo := hl m om hm hlm
          unfold lateOk at hlo
          split at hlo
          case h_2 => cases hlo
          case h_1 t d' hop hdst hg =>
          rw [hd] at hdst; cases hdst
          rw [Bool.and_eq_true, List.all_eq_true] at hlo
          have := hlo.2 (i, o) hm1
          have hne : i ≠ m := fun e' => by subst e'; rw [hlt] at hlm; cases hlm
          simp [hne, e] at this
        refine ih (listed.setIfInBounds i true) (upd com1 i true) B ρ' fr' L' _ w' (by simpa using hsz) hlen hd' ⟨s1.st.back s', ?_, ?_, ?_, ?_, ?_⟩ (by rw [remC_set hr1]; exact h')
        · intro m om hm hc
          by_cases hmi : m = i
          · subst hmi; exact hself
          · rw [upd_ne _ _ hmi] at hc; exact getD_set_true (s1.sub m om hm hc)
        · intro m om hm hml hc
          by_cases hmi : m = i
          · subst hmi; rw [upd_same] at hc; cases hc
          · rw [upd_ne _ _ hmi] at hc
            rw [getD_set_ne false (Ne.symm hmi)] at hml
            exact s1.late m om hm hml hc
        · intro m om d hm hlm hc hd
          by_cases hmi : m = i
          · subst hmi; rw [upd_same] at hc; cases hc
          · rw [upd_ne _ _ hmi] at hc
            rw [hv]
            have h0 := s1.junk m om d hm hlm hc hd
            cases hod : o.dst with
            | none => exact h0
            | some x =>
              rw [putA, getD_set_ne' fr1 v (fun e => by subst e; exact hdd m om hm hlm _ hd hod)]
              exact h0
        · intro m om hm hml hc
          by_cases hmi : m = i
          · subst hmi; rw [upd_same] at hc; cases hc
          · rw [upd_ne _ _ hmi] at hc
            rw [getD_set_ne false (Ne.symm hmi)] at hml
            exact (s1.pend m om hm hml hc).step s1.st s' hro fun x hx e => hdd m om hm (s1.late m om hm hml hc) x e hx
        · intro m m' o1 o2 hm hm' b1 b2 b3 b4 b5
          have e1 : m ≠ i := fun e => by subst e; rw [upd_same] at b2; cases b2
          have e2 : m' ≠ i := fun e => by subst e; rw [upd_same] at b4; cases b4
          rw [upd_ne _ _ e1] at b2
          rw [upd_ne _ _ e2] at b4
          rw [getD_set_ne false (Ne.symm e1)] at b1
          rw [getD_set_ne false (Ne.symm e2)] at b3
          exact s1.inj m m' o1 o2 hm hm' b1 b2 b3 b4 b5

theorem drawL_of (hT : TOk P T) (hm : P.follows .mixedOrders = true) {id : Nat} {ops : Array Oper} {Q : List AV → List AObj → Prop} (lt : Late) (us : Nat → List Nat) (kp : Nat → Keep)
    (hp : planOkL us kp lt ops.toList = true) (h : lateK T lt (DRun P T ops.toList us kp 0 ops.toList Q (junkAt (lt.map fun x => x.2.1) fr) L)) : drawK P C id ops Q fr L := by
  intro ρ a w s
  obtain ⟨h, hty⟩ := lateK_ex h
  refine wp_region_any hm ?_
  have hrem : remOf ops.toList (Array.replicate ops.size false) = tag 0 ops.toList := by
    unfold remOf
    apply List.filter_eq_self.2
    rintro ⟨i, o⟩ hi
    have := (List.getElem?_eq_some_iff.1 (mem_tag.1 hi).2).1
    have hlt : i < ops.size := by simpa using this
    simp [hlt]
  have hremC : remC ops.toList (fun _ => false) = tag 0 ops.toList := by
    unfold remC
    apply List.filter_eq_self.2
    intro _ _; rfl
  have hno : ∀ m o, ops.toList[m]? = some o → (Array.replicate ops.size false).getD m false = true → False := by
    intro m o ho hml
    have hlt : m < ops.size := by have := (List.getElem?_eq_some_iff.1 ho).1; simpa using this
    simp [hlt] at hml
  refine any_soundL hT hp hty (Q := Q) (fun ρ fr L a w s h => ⟨ρ, fr, L, s, h⟩) ops.size _ (fun _ => false) (fun _ => 0) ρ _ L a _ (by simp) (by rw [hrem, tag_length]; simp) ?_ ?_ (by rw [hremC, ← DRun_eq]; exact h)
  · intro m o ho hml
    exact (hno m o ho hml).elim
  · refine ⟨St.junkAt _ _ (s.drew _), (fun m o _ h => by cases h), fun m o ho hml _ => (hno m o ho hml).elim, ?_, fun m o ho hml _ => (hno m o ho hml).elim, fun m m' o o' ho _ hml _ _ _ _ => (hno m o ho hml).elim⟩
    intro m o d ho hlm _ hd
    refine junkAt_get _ _ d (.inl ?_)
    have hp' := hp
    unfold planOkL at hp'
    simp only [List.all_eq_true, Bool.and_eq_true] at hp'
    have hlo := (hp' (m, o) (mem_tag.2 ⟨Nat.zero_le _, by simpa using ho⟩)).2
    simp only [hlm, if_true] at hlo
    unfold lateOk at hlo
    split at hlo
    case h_2 => cases hlo
    case h_1 t d' hop hdst hg =>
    rw [hd] at hdst; cases hdst
    rw [Bool.and_eq_true, List.any_eq_true] at hlo
    obtain ⟨⟨x, hx, hxx⟩, _⟩ := hlo
    simp only [Bool.and_eq_true, beq_iff_eq] at hxx
    exact List.mem_map.2 ⟨x, hx, hxx.1.2⟩
end
end Go.Proofs.Ytbfefpkhalegmaa
