/- The arithmetic of the adaptive coder, in plain Lean: chances, states, the interval. -/
import Derived.Test.YtbfefpkhalegmaaT1

set_option linter.unusedVariables false
set_option linter.unusedSimpArgs false
namespace Go.Proofs.Ytbfefpkhalegmaa
open Go

theorem wr64 (n : Int) (h0 : -9223372036854775808 ≤ n) (h1 : n ≤ 9223372036854775807) : IntKind.wrap .i64 n = n := wrap_i64 h0 h1
theorem wru64 (n : Int) (h0 : 0 ≤ n) (h1 : n ≤ 18446744073709551615) : IntKind.wrap .u64 n = n := by
  have : IntKind.wrap .u64 n = n % 2 ^ 64 := rfl
  rw [this]; omega
theorem wru8 (n : Int) : IntKind.wrap .u8 n = n % 256 := rfl
theorem tdv (a b : Int) (h : 0 ≤ a) : a.tdiv b = a / b := Int.tdiv_eq_ediv_of_nonneg h
theorem tmd (a b : Int) (h : 0 ≤ a) : a.tmod b = a % b := Int.tmod_eq_emod_of_nonneg h
theorem fdv (a b : Int) (h : 0 ≤ b) : a.fdiv b = a / b := Int.fdiv_eq_ediv_of_nonneg a h
theorem gd_beq_true (a b : Int) (h : a = b) : (a == b) = true := by simp [h]
theorem gd_beq_false (a b : Int) (h : a ≠ b) : (a == b) = false := by simp [h]
theorem gd_dec_true (p : Prop) [Decidable p] (h : p) : decide p = true := by simp [h]
theorem gd_dec_false (p : Prop) [Decidable p] (h : ¬ p) : decide p = false := by simp [h]

/-- The chance that is told in state k of 32. -/
def unl : Nat → Int
  | 0 => 2048
  | n + 1 => unl n - unl n / 8
theorem unl_pos : ∀ n, 0 ≤ unl n ∧ unl n ≤ 2048
  | 0 => by decide
  | n + 1 => by
    have := unl_pos n
    simp only [unl]; omega

def StOk (kind s : Int) : Prop := 0 ≤ s ∧ s < if kind = 0 then 64 else 65536
def KdOk (kind : Int) : Prop := kind = 0 ∨ kind = 1
def likely (kind s : Int) : Int :=
  if kind = 0 then (if s < 32 then unl (s % 32).toNat else 4096 - unl (s % 32).toNat)
  else min (max ((2 * (s % 256) + 1) * 4096 / (2 * (s / 256) + 2 * (s % 256) + 2)) 1) 4095
def bump (a b bit : Int) : Int := if bit = 0 then 256 * (a + 1) + b else 256 * a + (b + 1)
def after (kind s bit : Int) : Int :=
  if kind = 0 then
    if bit = s / 32 then 32 * (s / 32) + min (s % 32 + 1) 31
    else if s % 32 = 0 then 32 * bit
    else 32 * (s / 32) + s % 32 - 1 - s % 32 / 4
  else if (if bit = 0 then s / 256 else s % 256) = 255 then bump (s / 256 / 2) (s % 256 / 2) bit else bump (s / 256) (s % 256) bit
def midI (lo hi p : Int) : Int := lo + (hi - lo) / 4096 * p + (hi - lo) % 4096 * p / 4096

theorem mul_bd (a p m n : Int) (h0 : 0 ≤ a) (h1 : a ≤ m) (h2 : 0 ≤ p) (h3 : p ≤ n) : 0 ≤ a * p ∧ a * p ≤ m * n :=
  ⟨Int.mul_nonneg h0 h2, Int.mul_le_mul h1 h3 h2 (by omega)⟩
def BdOk (lo hi : Int) : Prop := 0 ≤ lo ∧ lo ≤ hi ∧ hi ≤ 4294967295
theorem mid_bd {lo hi p : Int} (h : BdOk lo hi) (h0 : 0 ≤ p) (h1 : p ≤ 4096) : lo ≤ midI lo hi p ∧ midI lo hi p ≤ hi := by
  obtain ⟨a, b, c⟩ := h
  unfold midI
  have e := Int.emod_add_mul_ediv (hi - lo) 4096
  have b1 := mul_bd ((hi - lo) / 4096) p ((hi - lo) / 4096) 4096 (by omega) (by omega) h0 h1
  have b2 := mul_bd ((hi - lo) % 4096) p ((hi - lo) % 4096) 4096 (by omega) (by omega) h0 h1
  omega
theorem likely_bd {kd s : Int} (hk : KdOk kd) (hs : StOk kd s) : 1 ≤ likely kd s ∧ likely kd s ≤ 4095 := by
  obtain ⟨h0, h1⟩ := hs
  unfold likely
  split
  · rename_i hkd
    have key : ∀ n, n < 32 → 1 ≤ unl n ∧ unl n ≤ 2048 := by decide
    rw [if_pos hkd] at h1
    have := key (s % 32).toNat (by omega)
    split <;> omega
  · omega

end Go.Proofs.Ytbfefpkhalegmaa

set_option linter.unusedVariables false
set_option linter.unusedSimpArgs false
namespace Go.Proofs.Ytbfefpkhalegmaa
open Go
set_option maxHeartbeats 4000000

theorem c_unlikely (k : Int) (h0 : 0 ≤ k) (h1 : k ≤ 31) : LCall Try.prog 124 [.int .i64 k] [] fun r L => r = .int .i64 (unl k.toNat) ∧ L = [] := by
  refine lcall_of_vc tyok Try.func124 rfl (by rfl) Try.results124 Try.ntmps124 ?_; intro C hD
  simp (maxSteps := 2000000) only [↓vP0, vQ0, vT0, simprocAttr]
  refine loopK_of tyok hD (α := Nat) (fun i => (i : Int) ≤ k) (fun i => k.toNat - i) (fun i => [.int .i64 k, .junk, .junk, .int .i64 (unl i), .int .i64 i, .junk, .junk, .junk, .junk, .junk, .junk, .junk, .junk, .junk, .junk]) (fun i => []) 0 (by simpa using h0) (by (refine ⟨by simp [leF, leV] <;> rfl, ⟨_, by first | rfl | exact (List.append_nil _).symm⟩, by simp, by simp [okIns, okIn, okIns_ints], by simp [AObj.born, okIns, okIn, AObj.cells, okIns_ints]⟩)) ?_
  intro i hi
  have hu := unl_pos i
  simp (maxSteps := 2000000) only [↓vP0, vQ0, vT0, simprocAttr]
  (with_reducible first | refine condK_dec (fun h => ?_) (fun h => ?_) | refine condK_beq (fun h => ?_) (fun h => ?_) | refine condK_bne (fun h => ?_) (fun h => ?_) | refine condK_intro (fun h => ?_) (fun h => ?_))
  · simp (maxSteps := 2000000) only [↓vP0, vQ0, vT0, simprocAttr]
    simp (disch := omega) only [wr64, wru64, wru8, tdv, tmd, fdv]
    refine ⟨i + 1, by omega, by omega, ?_⟩
    simp only [unl, Int.natCast_add, Int.cast_ofNat_Int]
    (refine ⟨by simp [leF, leV] <;> rfl, ⟨_, by first | rfl | exact (List.append_nil _).symm⟩, by simp, by simp [okIns, okIn, okIns_ints], by simp [AObj.born, okIns, okIn, AObj.cells, okIns_ints]⟩)
  · have : i = k.toNat := by omega
    subst this
    simp (maxSteps := 2000000) only [↓vP0, vQ0, vT0, simprocAttr]
    exact exit_keep (L1 := []) (G := []) ⟨rfl, rfl⟩ trivial trivial

theorem c_Likely (kd s : Int) (hk : KdOk kd) (hs : StOk kd s) : LCall Try.prog 93 [.int .i64 kd, .int .i64 s] [] fun r L => r = .int .i64 (likely kd s) ∧ L = [] := by
  obtain ⟨hs0, hs1⟩ := hs
  have hs2 : s < 65536 := by split at hs1 <;> omega
  refine lcall_of_vc tyok Try.func93 rfl (by rfl) Try.results93 Try.ntmps93 ?_; intro C hD
  simp (maxSteps := 2000000) only [↓vP0, vQ0, vT0, simprocAttr]
  (with_reducible first | refine condK_dec (fun h => ?_) (fun h => ?_) | refine condK_beq (fun h => ?_) (fun h => ?_) | refine condK_bne (fun h => ?_) (fun h => ?_) | refine condK_intro (fun h => ?_) (fun h => ?_))
  · subst h
    have hs3 : s < 64 := by simpa using hs1
    have hu := unl_pos (s % 32).toNat
    simp (maxSteps := 2000000) only [↓vP0, vQ0, vT0, simprocAttr]
    simp (disch := omega) only [wr64, wru64, wru8, tdv, tmd, fdv]
    refine callK_pure (c_unlikely _ (by omega) (by omega)) rfl rfl ?_
    simp (maxSteps := 2000000) only [↓vP0, vQ0, vT0, simprocAttr]
    (with_reducible first | refine condK_dec (fun h => ?_) (fun h => ?_) | refine condK_beq (fun h => ?_) (fun h => ?_) | refine condK_bne (fun h => ?_) (fun h => ?_) | refine condK_intro (fun h => ?_) (fun h => ?_))
    · simp (maxSteps := 2000000) only [↓vP0, vQ0, vT0, simprocAttr]
      exact exit_keep (L1 := []) (G := []) ⟨by simp [likely, h], rfl⟩ trivial trivial
    · simp (maxSteps := 2000000) only [↓vP0, vQ0, vT0, simprocAttr]
      simp (disch := omega) only [wr64, wru64, wru8, tdv, tmd, fdv]
      refine callK_pure (c_unlikely _ (by omega) (by omega)) rfl rfl ?_
      simp (maxSteps := 2000000) only [↓vP0, vQ0, vT0, simprocAttr]
      simp (disch := omega) only [wr64, wru64, wru8, tdv, tmd, fdv]
      exact exit_keep (L1 := []) (G := []) ⟨by simp [likely, h], rfl⟩ trivial trivial
  · simp (maxSteps := 2000000) only [↓vP0, vQ0, vT0, simprocAttr]
    refine chk_intro (by (try simp (disch := omega) only [wr64, wru64, wru8, tdv, tmd, fdv]); omega) ?_
    simp (maxSteps := 2000000) only [↓vP0, vQ0, vT0, simprocAttr]
    simp (disch := omega) only [wr64, wru64, wru8, tdv, tmd, fdv]
    have h1 : 0 < 2 * (s / 256) + 2 * (s % 256) + 2 := by omega
    have h2 : (2 * (s % 256) + 1) * 4096 / (2 * (s / 256) + 2 * (s % 256) + 2) ≤ (2 * (s % 256) + 1) * 4096 := Int.ediv_le_self _ (by omega)
    have h3 : 0 ≤ (2 * (s % 256) + 1) * 4096 / (2 * (s / 256) + 2 * (s % 256) + 2) := Int.ediv_nonneg (by omega) (by omega)
    rw [wr64 _ (by omega) (by omega)]
    exact exit_keep (L1 := []) (G := []) ⟨by simp [likely, h], rfl⟩ trivial trivial

theorem c_After (kd s bit : Int) (hk : KdOk kd) (hs : StOk kd s) (hb : KdOk bit) : LCall Try.prog 95 [.int .i64 kd, .int .i64 s, .int .i64 bit] [] fun r L => r = .int .i64 (after kd s bit) ∧ L = [] := by
  obtain ⟨hs0, hs1⟩ := hs
  have hs2 : s < 65536 := by split at hs1 <;> omega
  have hb2 : 0 ≤ bit ∧ bit ≤ 1 := by rcases hb with h | h <;> omega
  refine lcall_of_vc tyok Try.func95 rfl (by rfl) Try.results95 Try.ntmps95 ?_; intro C hD
  simp (maxSteps := 2000000) only [↓vP0, vQ0, vT0, simprocAttr]
  (with_reducible first | refine condK_dec (fun h => ?_) (fun h => ?_) | refine condK_beq (fun h => ?_) (fun h => ?_) | refine condK_bne (fun h => ?_) (fun h => ?_) | refine condK_intro (fun h => ?_) (fun h => ?_))
  · subst h
    have hs3 : s < 64 := by simpa using hs1
    simp (maxSteps := 2000000) only [↓vP0, vQ0, vT0, simprocAttr]
    simp (disch := omega) only [wr64, wru64, wru8, tdv, tmd, fdv]
    (with_reducible first | refine condK_dec (fun h => ?_) (fun h => ?_) | refine condK_beq (fun h => ?_) (fun h => ?_) | refine condK_bne (fun h => ?_) (fun h => ?_) | refine condK_intro (fun h => ?_) (fun h => ?_))
    · simp (maxSteps := 2000000) only [↓vP0, vQ0, vT0, simprocAttr]
      simp (disch := omega) only [wr64, wru64, wru8, tdv, tmd, fdv]
      exact exit_keep (L1 := []) (G := []) ⟨by simp [after, h], rfl⟩ trivial trivial
    · simp (maxSteps := 2000000) only [↓vP0, vQ0, vT0, simprocAttr]
      simp (disch := omega) only [wr64, wru64, wru8, tdv, tmd, fdv]
      (with_reducible first | refine condK_dec (fun h => ?_) (fun h => ?_) | refine condK_beq (fun h => ?_) (fun h => ?_) | refine condK_bne (fun h => ?_) (fun h => ?_) | refine condK_intro (fun h => ?_) (fun h => ?_))
      · simp (maxSteps := 2000000) only [↓vP0, vQ0, vT0, simprocAttr]
        simp (disch := omega) only [wr64, wru64, wru8, tdv, tmd, fdv]
        exact exit_keep (L1 := []) (G := []) ⟨by simp [after, *], rfl⟩ trivial trivial
      · simp (maxSteps := 2000000) only [↓vP0, vQ0, vT0, simprocAttr]
        simp (disch := omega) only [wr64, wru64, wru8, tdv, tmd, fdv]
        exact exit_keep (L1 := []) (G := []) ⟨by simp [after, *], rfl⟩ trivial trivial
  · rcases hb with rfl | rfl
    · simp (maxSteps := 2000000) only [↓vP0, vQ0, vT0, simprocAttr]
      simp (disch := omega) only [wr64, wru64, wru8, tdv, tmd, fdv]
      (with_reducible first | refine condK_dec (fun h => ?_) (fun h => ?_) | refine condK_beq (fun h => ?_) (fun h => ?_) | refine condK_bne (fun h => ?_) (fun h => ?_) | refine condK_intro (fun h => ?_) (fun h => ?_))
      · simp (maxSteps := 2000000) only [↓vP0, vQ0, vT0, simprocAttr]
        simp (disch := omega) only [wr64, wru64, wru8, tdv, tmd, fdv]
        exact exit_keep (L1 := []) ⟨by simp [after, bump, *], rfl⟩ trivial trivial
      · simp (maxSteps := 2000000) only [↓vP0, vQ0, vT0, simprocAttr]
        simp (disch := omega) only [wr64, wru64, wru8, tdv, tmd, fdv]
        exact exit_keep (L1 := []) ⟨by simp [after, bump, *], rfl⟩ trivial trivial
    · simp (maxSteps := 2000000) only [↓vP0, vQ0, vT0, simprocAttr]
      simp (disch := omega) only [wr64, wru64, wru8, tdv, tmd, fdv]
      (with_reducible first | refine condK_dec (fun h => ?_) (fun h => ?_) | refine condK_beq (fun h => ?_) (fun h => ?_) | refine condK_bne (fun h => ?_) (fun h => ?_) | refine condK_intro (fun h => ?_) (fun h => ?_))
      · simp (maxSteps := 2000000) only [↓vP0, vQ0, vT0, simprocAttr]
        simp (disch := omega) only [wr64, wru64, wru8, tdv, tmd, fdv]
        exact exit_keep (L1 := []) ⟨by simp [after, bump, *], rfl⟩ trivial trivial
      · simp (maxSteps := 2000000) only [↓vP0, vQ0, vT0, simprocAttr]
        simp (disch := omega) only [wr64, wru64, wru8, tdv, tmd, fdv]
        exact exit_keep (L1 := []) ⟨by simp [after, bump, *], rfl⟩ trivial trivial
end Go.Proofs.Ytbfefpkhalegmaa

set_option linter.unusedVariables false
set_option linter.unusedSimpArgs false
namespace Go.Proofs.Ytbfefpkhalegmaa
open Go

abbrev ivl (lo hi : Int) : AV := .agg [.int .u64 lo, .int .u64 hi]

theorem c_Whole : LCall Try.prog 85 [] [] fun r L => r = ivl 0 4294967295 ∧ L = [] := by
  refine lcall_of_vc tyok Try.func85 rfl (by rfl) Try.results85 Try.ntmps85 ?_; intro C hD
  simp (maxSteps := 2000000) only [↓vP0, vQ0, vT0, simprocAttr]
  exact exit_keep (L1 := []) ⟨rfl, rfl⟩ ⟨trivial, trivial, trivial⟩ trivial

theorem c_Mid (lo hi p : Int) (h : BdOk lo hi) (h0 : 0 ≤ p) (h1 : p ≤ 4096) : LCall Try.prog 125 [ivl lo hi, .int .i64 p] [] fun r L => r = .int .u64 (midI lo hi p) ∧ L = [] := by
  obtain ⟨a, b, c⟩ := h
  have b1 := mul_bd ((hi - lo) / 4096) p 1048576 4096 (by omega) (by omega) h0 h1
  have b2 := mul_bd ((hi - lo) % 4096) p 4096 4096 (by omega) (by omega) h0 h1
  refine lcall_of_vc tyok Try.func125 rfl (by rfl) Try.results125 Try.ntmps125 ?_; intro C hD
  simp (maxSteps := 2000000) only [↓vP0, vQ0, vT0, simprocAttr]
  simp (disch := omega) only [wr64, wru64, wru8, tdv, tmd, fdv]
  exact exit_keep (L1 := []) ⟨rfl, rfl⟩ trivial trivial

theorem c_Fixed (lo hi : Int) (h : BdOk lo hi) : LCall Try.prog 96 [ivl lo hi] [] fun r L => r = .bool (lo / 16777216 == hi / 16777216) ∧ L = [] := by
  refine lcall_of_vc tyok Try.func96 rfl (by rfl) Try.results96 Try.ntmps96 ?_; intro C hD
  simp (maxSteps := 2000000) only [↓vP0, vQ0, vT0, simprocAttr]
  simp (disch := omega) only [wr64, wru64, wru8, tdv, tmd, fdv]
  exact exit_keep (L1 := []) ⟨rfl, rfl⟩ trivial trivial

theorem c_Shifted (lo hi : Int) (h : BdOk lo hi) : LCall Try.prog 97 [ivl lo hi] [] fun r L => r = ivl (lo % 16777216 * 256) (hi % 16777216 * 256 + 255) ∧ L = [] := by
  obtain ⟨a, b, c⟩ := h
  refine lcall_of_vc tyok Try.func97 rfl (by rfl) Try.results97 Try.ntmps97 ?_; intro C hD
  simp (maxSteps := 2000000) only [↓vP0, vQ0, vT0, simprocAttr]
  simp (disch := omega) only [wr64, wru64, wru8, tdv, tmd, fdv]
  exact exit_keep (L1 := []) ⟨rfl, rfl⟩ ⟨trivial, trivial, trivial⟩ trivial

theorem c_Part (lo hi p bit : Int) (h : BdOk lo hi) (h0 : 0 ≤ p) (h1 : p ≤ 4096) : LCall Try.prog 94 [ivl lo hi, .int .i64 p, .int .i64 bit] [] fun r L =>
    r = ivl (if bit = 1 then lo else midI lo hi p + 1) (if bit = 1 then midI lo hi p else hi) ∧ L = [] := by
  have hb := mid_bd h h0 h1
  have ⟨a, b, c⟩ := h
  refine lcall_of_vc tyok Try.func94 rfl (by rfl) Try.results94 Try.ntmps94 ?_; intro C hD
  simp (maxSteps := 2000000) only [↓vP0, vQ0, vT0, simprocAttr]
  (with_reducible first | refine condK_dec (fun h => ?_) (fun h => ?_) | refine condK_beq (fun h => ?_) (fun h => ?_) | refine condK_bne (fun h => ?_) (fun h => ?_) | refine condK_intro (fun h => ?_) (fun h => ?_))
  · simp (maxSteps := 2000000) only [↓vP0, vQ0, vT0, simprocAttr]
    refine drawK_of tyok rfl (usL [[], [4]]) (kpL [.below 0, .below 0, .below 0, .below 0, .below 2]) (by kernel_rfl) ?_
    simp (maxSteps := 2000000) only [↓vP0, vQ0, vT0, simprocAttr]
    refine callK_pure (c_Mid lo hi p ‹_› h0 h1) rfl rfl ?_
    simp (maxSteps := 2000000) only [↓vP0, vQ0, vT0, simprocAttr]
    exact exit_keep (L1 := []) ⟨by simp [h], rfl⟩ ⟨trivial, trivial, trivial⟩ trivial
  · simp (maxSteps := 2000000) only [↓vP0, vQ0, vT0, simprocAttr]
    refine drawK_of tyok rfl (usL [[], [], [], [], [], [2]]) (kpL [.below 0, .below 0, .below 2]) (by kernel_rfl) ?_
    simp (maxSteps := 2000000) only [↓vP0, vQ0, vT0, simprocAttr]
    refine callK_pure (c_Mid lo hi p ‹_› h0 h1) rfl rfl ?_
    simp (maxSteps := 2000000) only [↓vP0, vQ0, vT0, simprocAttr]
    simp (disch := omega) only [wr64, wru64, wru8, tdv, tmd, fdv]
    exact exit_keep (L1 := []) ⟨by simp [h], rfl⟩ ⟨trivial, trivial, trivial⟩ trivial
end Go.Proofs.Ytbfefpkhalegmaa

set_option linter.unusedVariables false
set_option linter.unusedSimpArgs false
namespace Go.Proofs.Ytbfefpkhalegmaa
open Go
set_option maxHeartbeats 1000000
set_option maxRecDepth 10000

def StsOk (kd : Int) (st : List Int) : Prop := KdOk kd ∧ st.length ≤ 8192 ∧ ∀ s ∈ st, StOk kd s
theorem StsOk.get {kd : Int} {st : List Int} (h : StsOk kd st) {i : Nat} (hi : i < st.length) : StOk kd (st.getD i 0) := by
  refine h.2.2 _ ?_
  rw [List.getD_eq_getElem?_getD, List.getElem?_eq_getElem hi]
  simp

theorem c_rValid (kd : Int) (st : List Int) (h : StsOk kd st) : LCall Try.prog 83 [.agg [.int .i64 kd, .slice 0 0 st.length]] [.ro (ints .i64 st) 3] fun r L => r = .bool true ∧ L = [.ro (ints .i64 st) 3] := by
  have hlen := h.2.1
  refine lcall_of_vc tyok Try.func83 rfl (by rfl) Try.results83 Try.ntmps83 ?_; intro C hD
  have hst := fun i hi => h.get (i := i) hi
  have e0 : decide ((8192 : Int) < (st.length : Int)) = false := by simp; omega
  rcases h.1 with rfl | rfl
  · simp (maxSteps := 2000000) only [↓vP0, vQ0, vT0, simprocAttr, e0]
    refine loopK_of tyok hD (α := Nat) (fun i => i ≤ st.length) (fun i => st.length - i) (fun i => [.junk, .junk, .junk, .int .i64 63, .junk, .junk, .junk, .junk, .junk, .junk, .junk, .junk, .junk, .junk, .junk, .junk, .junk, .junk, .junk, .junk, .junk, .junk, .junk, .junk, .slice 0 0 st.length, .int .i64 st.length, .int .i64 i, .junk, .junk, .junk, .junk, .junk, .junk, .junk, .junk, .junk, .junk, .junk]) (fun i => [.ro (ints .i64 st) 3]) 0 (by omega) (by (refine ⟨by simp [leF, leV] <;> rfl, ⟨_, by first | rfl | exact (List.append_nil _).symm⟩, by simp, by simp [okIns, okIn, okIns_ints], by simp [AObj.born, okIns, okIn, AObj.cells, okIns_ints]⟩)) ?_
    intro i hi
    simp (maxSteps := 2000000) only [↓vP0, vQ0, vT0, simprocAttr]
    (with_reducible first | refine condK_dec (fun h => ?_) (fun h => ?_) | refine condK_beq (fun h => ?_) (fun h => ?_) | refine condK_bne (fun h => ?_) (fun h => ?_) | refine condK_intro (fun h => ?_) (fun h => ?_))
    · have hi' : i < st.length := by omega
      have ⟨h1, h2⟩ := hst i hi'
      have e1 : decide (st.getD i 0 < 0) = false := decide_eq_false (by omega)
      have e2 : decide ((63 : Int) < st.getD i 0) = false := decide_eq_false (by rw [if_pos rfl] at h2; omega)
      simp (maxSteps := 2000000) only [↓vP0, vQ0, vT0, simprocAttr]
      refine chk_intro (by omega) ?_
      simp (maxSteps := 2000000) only [↓vP0, vQ0, vT0, simprocAttr, ints_get _ _ _ hi', e1, e2]
      simp (disch := omega) only [wr64, wru64, wru8, tdv, tmd, fdv]
      refine ⟨i + 1, by omega, by omega, ?_⟩
      rw [Int.natCast_add]
      (refine ⟨by simp [leF, leV] <;> rfl, ⟨_, by first | rfl | exact (List.append_nil _).symm⟩, by simp, by simp [okIns, okIn, okIns_ints], by simp [AObj.born, okIns, okIn, AObj.cells, okIns_ints]⟩)
    · simp (maxSteps := 2000000) only [↓vP0, vQ0, vT0, simprocAttr]
      exact exit_keep (L1 := [.ro (ints .i64 st) 3]) (G := []) ⟨rfl, rfl⟩ trivial ⟨⟨rfl, by simp [okIns_ints]⟩, trivial⟩
  · simp (maxSteps := 2000000) only [↓vP0, vQ0, vT0, simprocAttr, e0]
    refine loopK_of tyok hD (α := Nat) (fun i => i ≤ st.length) (fun i => st.length - i) (fun i => [.junk, .junk, .junk, .int .i64 65535, .junk, .junk, .junk, .junk, .junk, .junk, .junk, .junk, .junk, .junk, .junk, .junk, .junk, .junk, .junk, .junk, .junk, .junk, .junk, .junk, .slice 0 0 st.length, .int .i64 st.length, .int .i64 i, .junk, .junk, .junk, .junk, .junk, .junk, .junk, .junk, .junk, .junk, .junk]) (fun i => [.ro (ints .i64 st) 3]) 0 (by omega) (by (refine ⟨by simp [leF, leV] <;> rfl, ⟨_, by first | rfl | exact (List.append_nil _).symm⟩, by simp, by simp [okIns, okIn, okIns_ints], by simp [AObj.born, okIns, okIn, AObj.cells, okIns_ints]⟩)) ?_
    intro i hi
    simp (maxSteps := 2000000) only [↓vP0, vQ0, vT0, simprocAttr]
    (with_reducible first | refine condK_dec (fun h => ?_) (fun h => ?_) | refine condK_beq (fun h => ?_) (fun h => ?_) | refine condK_bne (fun h => ?_) (fun h => ?_) | refine condK_intro (fun h => ?_) (fun h => ?_))
    · have hi' : i < st.length := by omega
      have ⟨h1, h2⟩ := hst i hi'
      have e1 : decide (st.getD i 0 < 0) = false := decide_eq_false (by omega)
      have e2 : decide ((65535 : Int) < st.getD i 0) = false := decide_eq_false (by rw [if_neg (by decide)] at h2; omega)
      simp (maxSteps := 2000000) only [↓vP0, vQ0, vT0, simprocAttr]
      refine chk_intro (by omega) ?_
      simp (maxSteps := 2000000) only [↓vP0, vQ0, vT0, simprocAttr, ints_get _ _ _ hi', e1, e2]
      simp (disch := omega) only [wr64, wru64, wru8, tdv, tmd, fdv]
      refine ⟨i + 1, by omega, by omega, ?_⟩
      rw [Int.natCast_add]
      (refine ⟨by simp [leF, leV] <;> rfl, ⟨_, by first | rfl | exact (List.append_nil _).symm⟩, by simp, by simp [okIns, okIn, okIns_ints], by simp [AObj.born, okIns, okIn, AObj.cells, okIns_ints]⟩)
    · simp (maxSteps := 2000000) only [↓vP0, vQ0, vT0, simprocAttr]
      exact exit_keep (L1 := [.ro (ints .i64 st) 3]) (G := []) ⟨rfl, rfl⟩ trivial ⟨⟨rfl, by simp [okIns_ints]⟩, trivial⟩
end Go.Proofs.Ytbfefpkhalegmaa

set_option linter.unusedVariables false
set_option linter.unusedSimpArgs false
namespace Go.Proofs.Ytbfefpkhalegmaa
open Go
set_option maxHeartbeats 1000000
set_option maxRecDepth 10000

theorem c_rCopy (kd : Int) (st : List Int) (hl : st.length ≤ 10000) : LCall Try.prog 84 [.agg [.int .i64 kd, .slice 0 0 st.length]] [.ro (ints .i64 st) 3] fun r L =>
    r = .agg [.int .i64 kd, .slice 1 0 st.length] ∧ L = [.ro (ints .i64 st) 3, .own (ints .i64 st) 3] := by
  refine lcall_of_vc tyok Try.func84 rfl (by rfl) Try.results84 Try.ntmps84 ?_; intro C hD
  simp (maxSteps := 2000000) only [↓vP0, vQ0, vT0, simprocAttr]
  refine drawK_of tyok rfl (usL [[], [2, 5], [], [], [2]]) (kpL [.below 0, .below 0, .below 3, .below 0, .below 0, .below 3]) (by kernel_rfl) ?_
  simp (maxSteps := 2000000) only [↓vP0, vQ0, vT0, simprocAttr]
  refine chk_intro (by first | omega | (simp [ints_length, ints_cell1, ints_take, ints_drop]; try omega)) ?_
  simp (maxSteps := 2000000) only [↓vP0, vQ0, vT0, simprocAttr]
  refine exit_of [3] (.agg [.int .i64 kd, .slice 1 0 st.length]) [.ro (ints .i64 st) 3, .own (ints .i64 st) 3] ⟨rfl, rfl⟩ ?_ ?_ rfl ?_ ?_
  all_goals simp [ren, rens, sg, sig, okIn, okIns, exK, leK, leF, leV, matK, objM, renO, roSame, lh, born, AObj.born, AObj.live, injOk, kindOf, rens_ints, okIns_ints, List.range, List.range.loop, mrg, mset]

structure Enc where
  kd : Int
  st : List Int
  lo : Int
  hi : Int
  out : List Int
def EncOk (e : Enc) : Prop := StsOk e.kd e.st ∧ BdOk e.lo e.hi
def encNew (kd : Int) (st : List Int) : Enc := ⟨kd, st, 0, 4294967295, []⟩
/-- The encoder's cells; its states are object s, its code is object k. -/
def rEncC (e : Enc) (s k : Nat) : List AV := [.int .i64 e.kd, .slice s 0 e.st.length, .int .u64 e.lo, .int .u64 e.hi, .slice k 0 e.out.length]
theorem rEncC_rens (σ : Nat → Nat) (e : Enc) (s k : Nat) : rens σ (rEncC e s k) = rEncC e (σ s) (σ k) := by simp [rEncC, rens, ren]
theorem rEncC_okIns (B : Nat → Prop) (e : Enc) (s k : Nat) : okIns B (rEncC e s k) = (B s ∧ B k) := by simp [rEncC, okIns, okIn]
theorem rEncC_inj (e : Enc) (s k s' k' : Nat) : (rEncC e s k = rEncC e s' k') = (s = s' ∧ k = k') := by simp [rEncC]
def rEncL (e : Enc) : List AObj := [.own (rEncC e 1 2) 132, .own (ints .i64 e.st) 3, .own (ints .u8 e.out) 5]
/-- Behind a call: the code lies anew. -/
def rEncM (e : Enc) : List AObj := [.own (rEncC e 1 3) 132, .own (ints .i64 e.st) 3, .dead, .own (ints .u8 e.out) 5]

theorem c_rNewEncoder (kd : Int) (st : List Int) (h : StsOk kd st) : LCall Try.prog 37 [.agg [.int .i64 kd, .slice 0 0 st.length]] [.ro (ints .i64 st) 3] fun r L =>
    r = .tup [.ptr 1 0, .int .i64 0] ∧ L = [.ro (ints .i64 st) 3, .own (rEncC (encNew kd st) 2 3) 132, .own (ints .i64 st) 3, .own [] 5] := by
  have hl := h.2.1
  refine lcall_of_vcB tyok Try.func37 rfl (by rfl) Try.results37 Try.ntmps37 ?_; intro C hD
  simp (maxSteps := 2000000) only [↓vP0, vQ0, vT0, simprocAttr]
  refine callK_read (c_rValid kd st h) [0] ?_ ?_ ?_ rfl ?_
  · simp [ren, rens, sg, sig, okIn, okIns, exK, leK, leF, leV, matK, objM, renO, roSame, lh, born, AObj.born, AObj.live, injOk, kindOf, rens_ints, okIns_ints, List.range, List.range.loop, mrg, mset]
  · simp [ren, rens, sg, sig, okIn, okIns, exK, leK, leF, leV, matK, objM, renO, roSame, lh, born, AObj.born, AObj.live, injOk, kindOf, rens_ints, okIns_ints, List.range, List.range.loop, mrg, mset]
  · simp [ren, rens, sg, sig, okIn, okIns, exK, leK, leF, leV, matK, objM, renO, roSame, lh, born, AObj.born, AObj.live, injOk, kindOf, rens_ints, okIns_ints, List.range, List.range.loop, mrg, mset]
  simp (maxSteps := 2000000) only [↓vP0, vQ0, vT0, simprocAttr]
  refine callK_of (c_rCopy kd st (by omega)) [0] ?_ ?_ ?_ rfl ⟨_, _, by simp, rfl, rfl⟩ ?_
  · simp [ren, rens, sg, sig, okIn, okIns, exK, leK, leF, leV, matK, objM, renO, roSame, lh, born, AObj.born, AObj.live, injOk, kindOf, rens_ints, okIns_ints, List.range, List.range.loop, mrg, mset]
  · simp [ren, rens, sg, sig, okIn, okIns, exK, leK, leF, leV, matK, objM, renO, roSame, lh, born, AObj.born, AObj.live, injOk, kindOf, rens_ints, okIns_ints, List.range, List.range.loop, mrg, mset]
  · simp [ren, rens, sg, sig, okIn, okIns, exK, leK, leF, leV, matK, objM, renO, roSame, lh, born, AObj.born, AObj.live, injOk, kindOf, rens_ints, okIns_ints, List.range, List.range.loop, mrg, mset]
  rintro r L0' _ ⟨rfl, rfl⟩
  simp (maxSteps := 2000000) only [↓vP0, vQ0, vT0, simprocAttr]
  refine callK_read c_Whole [] rfl trivial trivial rfl ?_
  simp (maxSteps := 2000000) only [↓vP0, vQ0, vT0, simprocAttr]
  refine exitB_of [(5, .cell 3 4)] ?_
  simp (maxSteps := 2000000) only [↓vP0, vQ0, vT0, simprocAttr]
  refine exit_of [3, 2, 4] (.tup [.ptr 1 0, .int .i64 0]) [.ro (ints .i64 st) 3, .own (rEncC (encNew kd st) 2 3) 132, .own (ints .i64 st) 3, .own [] 5] ⟨rfl, rfl⟩ ?_ ?_ rfl ?_ ?_
  all_goals ((try simp only [rEncC, encNew]); simp [ren, rens, sg, sig, okIn, okIns, exK, leK, leF, leV, matK, objM, renO, roSame, lh, born, AObj.born, AObj.live, injOk, kindOf, rens_ints, okIns_ints, List.range, List.range.loop, mrg, mset])
end Go.Proofs.Ytbfefpkhalegmaa

set_option linter.unusedVariables false
set_option linter.unusedSimpArgs false
namespace Go.Proofs.Ytbfefpkhalegmaa
open Go
set_option maxHeartbeats 2000000
set_option maxRecDepth 20000

def Enc.shift (e : Enc) : Enc := ⟨e.kd, e.st, e.lo % 16777216 * 256, e.hi % 16777216 * 256 + 255, e.out ++ [e.hi / 16777216]⟩
def flush : Nat → Enc → Enc
  | 0, e => e
  | n + 1, e => if e.lo / 16777216 = e.hi / 16777216 then flush n e.shift else e
def Enc.part (e : Enc) (c : Nat) (bit : Int) : Enc :=
  ⟨e.kd, e.st.set c (after e.kd (e.st.getD c 0) bit), if bit = 1 then e.lo else midI e.lo e.hi (likely e.kd (e.st.getD c 0)) + 1, if bit = 1 then midI e.lo e.hi (likely e.kd (e.st.getD c 0)) else e.hi, e.out⟩
def Enc.put (e : Enc) (c : Nat) (bit : Int) : Enc := flush 4 (e.part c bit)
/-- An encoder between two bits. -/
def Enc.Ok (e : Enc) : Prop := StsOk e.kd e.st ∧ BdOk e.lo e.hi ∧ e.lo / 16777216 ≠ e.hi / 16777216
def Wide (n : Nat) (lo hi : Int) : Prop := 4294967296 ≤ (hi - lo + 1) * 256 ^ n

theorem mid_lt {lo hi p : Int} (h : BdOk lo hi) (hlt : lo < hi) (h0 : 0 ≤ p) (h1 : p ≤ 4095) : midI lo hi p < hi := by
  obtain ⟨a, b, c⟩ := h
  unfold midI
  have b1 := mul_bd ((hi - lo) / 4096) p ((hi - lo) / 4096) 4095 (by omega) (by omega) h0 h1
  have b2 := mul_bd ((hi - lo) % 4096) p ((hi - lo) % 4096) 4095 (by omega) (by omega) h0 h1
  omega

theorem Wide.shift {n : Nat} {e : Enc} (hb : BdOk e.lo e.hi) (he : e.lo / 16777216 = e.hi / 16777216) (h : Wide (n + 1) e.lo e.hi) : BdOk e.shift.lo e.shift.hi ∧ Wide n e.shift.lo e.shift.hi := by
  obtain ⟨a, b, c⟩ := hb
  unfold Wide at *
  have hw : e.shift.hi - e.shift.lo + 1 = (e.hi - e.lo + 1) * 256 := by simp only [Enc.shift]; omega
  refine ⟨⟨by simp only [Enc.shift]; omega, by omega, by simp only [Enc.shift]; omega⟩, ?_⟩
  rw [hw, Int.mul_assoc, ← Int.pow_succ']
  exact h
theorem Wide.zero {lo hi : Int} (hb : BdOk lo hi) (h : Wide 0 lo hi) : lo / 16777216 ≠ hi / 16777216 := by
  obtain ⟨a, b, c⟩ := hb
  unfold Wide at h
  simp at h
  omega
theorem flush_ok : ∀ (n : Nat) (e : Enc), BdOk e.lo e.hi → Wide n e.lo e.hi → BdOk (flush n e).lo (flush n e).hi ∧ (flush n e).lo / 16777216 ≠ (flush n e).hi / 16777216 ∧ (flush n e).kd = e.kd ∧ (flush n e).st = e.st ∧ (flush n e).out.length ≤ e.out.length + n
  | 0, e, hb, hw => ⟨hb, hw.zero hb, rfl, rfl, by simp [flush]⟩
  | n + 1, e, hb, hw => by
    simp only [flush]
    split
    · rename_i he
      obtain ⟨h1, h2⟩ := hw.shift hb he
      obtain ⟨a1, a2, a3, a4, a5⟩ := flush_ok n e.shift h1 h2
      refine ⟨a1, a2, a3, a4, ?_⟩
      simp [Enc.shift] at a5 ⊢
      omega
    · rename_i he
      exact ⟨hb, he, rfl, rfl, by omega⟩
theorem part_ok {e : Enc} (h : e.Ok) {c : Nat} (hc : c < e.st.length) {bit : Int} (hb : KdOk bit) : BdOk (e.part c bit).lo (e.part c bit).hi ∧ Wide 4 (e.part c bit).lo (e.part c bit).hi := by
  obtain ⟨h1, h2, h3⟩ := h
  have hl := likely_bd h1.1 (h1.get hc)
  have hlt : e.lo < e.hi := by
    have := h2.2.1
    rcases Int.lt_or_eq_of_le this with h | h
    · exact h
    · rw [h] at h3; exact absurd rfl h3
  have m1 := mid_bd h2 (p := likely e.kd (e.st.getD c 0)) (by omega) (by omega)
  have m2 := mid_lt h2 hlt (p := likely e.kd (e.st.getD c 0)) (by omega) (by omega)
  obtain ⟨a, b, c'⟩ := h2
  have key : BdOk (e.part c bit).lo (e.part c bit).hi := by
    simp only [Enc.part, BdOk]
    split <;> omega
  refine ⟨key, ?_⟩
  have := key.2.1
  unfold Wide
  have e4 : (256 : Int) ^ 4 = 4294967296 := by decide
  rw [e4]
  omega
theorem after_ok {kd s bit : Int} (hk : KdOk kd) (hs : StOk kd s) (hb : KdOk bit) : StOk kd (after kd s bit) := by
  obtain ⟨h0, h1⟩ := hs
  unfold after StOk bump
  rcases hk with rfl | rfl <;> rcases hb with rfl | rfl <;> simp at h1 ⊢ <;> (repeat' split) <;> omega
theorem put_ok {e : Enc} (h : e.Ok) {c : Nat} (hc : c < e.st.length) {bit : Int} (hb : KdOk bit) : (e.put c bit).Ok ∧ (e.put c bit).kd = e.kd ∧ (e.put c bit).st = e.st.set c (after e.kd (e.st.getD c 0) bit) ∧ (e.put c bit).out.length ≤ e.out.length + 4 := by
  obtain ⟨h1, h2⟩ := part_ok h hc hb
  obtain ⟨a1, a2, a3, a4, a5⟩ := flush_ok 4 _ h1 h2
  have e1 : (e.put c bit).kd = e.kd := a3
  have e2 : (e.put c bit).st = e.st.set c (after e.kd (e.st.getD c 0) bit) := a4
  refine ⟨⟨?_, a1, a2⟩, e1, e2, a5⟩
  rw [e1, e2]
  refine ⟨h.1.1, by simpa using h.1.2.1, fun s hs => ?_⟩
  rcases List.mem_or_eq_of_mem_set hs with hs | rfl
  · exact h.1.2.2 s hs
  · exact after_ok h.1.1 (h.1.get hc) hb
end Go.Proofs.Ytbfefpkhalegmaa

set_option linter.unusedVariables false
set_option linter.unusedSimpArgs false
namespace Go.Proofs.Ytbfefpkhalegmaa
open Go
set_option maxHeartbeats 4000000
set_option maxRecDepth 20000

theorem c_rPut (e : Enc) (he : e.Ok) (c : Nat) (hc : c < e.st.length) (bit : Int) (hb : KdOk bit) (hlen : e.out.length ≤ 1099511627776) :
    LCall Try.prog 39 [.ptr 0 0, .int .i64 c, .int .i64 bit] (rEncL e) fun r L => r = .int .i64 0 ∧ L = rEncM (e.put c bit) := by
  obtain ⟨kd, st, lo, hi, out⟩ := e
  simp only at hc hlen
  have hs := he.1.get hc
  have hl := likely_bd he.1.1 hs
  have hlc := he.1.2.1
  simp only at hlc hs hl
  have e1 : decide ((c : Int) < 0) = false := decide_eq_false (by omega)
  have e2 : decide ((st.length : Int) ≤ (c : Int)) = false := decide_eq_false (by omega)
  have e3 : (bit != 0 && bit != 1) = false := by rcases hb with rfl | rfl <;> rfl
  refine lcall_of_vc tyok Try.func39 rfl (by rfl) Try.results39 Try.ntmps39 ?_; intro C hD
  simp only [rEncL, rEncC] at hD ⊢
  have hb' := hb
  have hpart := part_ok he hc hb
  rcases hb with rfl | rfl
  all_goals
    simp (maxSteps := 2000000) only [↓vP0, vQ0, vT0, simprocAttr, e1, e2]
    refine drawK_of tyok rfl (usL []) (kpL []) (by kernel_rfl) ?_
    simp (maxSteps := 2000000) only [↓vP0, vQ0, vT0, simprocAttr]
    refine chk_intro (by omega) ?_
    simp (maxSteps := 2000000) only [↓vP0, vQ0, vT0, simprocAttr, ints_get _ _ _ hc]
    refine callK_pure (c_Likely kd _ he.1.1 hs) rfl rfl ?_
    simp (maxSteps := 2000000) only [↓vP0, vQ0, vT0, simprocAttr]
    refine callK_pure (c_Part lo hi _ _ he.2.1 (by omega) (by omega)) rfl rfl ?_
    simp (maxSteps := 2000000) only [↓vP0, vQ0, vT0, simprocAttr]
    refine drawK_of tyok rfl (usL [[], [], [], [], [20]]) (fun i => if i = 20 then .below 2 else .below 0) (by kernel_rfl) ?_
    simp (maxSteps := 2000000) only [↓vP0, vQ0, vT0, simprocAttr]
    refine chk_intro (by omega) ?_
    simp (maxSteps := 2000000) only [↓vP0, vQ0, vT0, simprocAttr, ints_get _ _ _ hc]
    refine callK_pure (c_After kd _ _ he.1.1 hs hb') rfl rfl ?_
    simp (maxSteps := 2000000) only [↓vP0, vQ0, vT0, simprocAttr]
    refine chk_intro (by omega) ?_
    simp (maxSteps := 2000000) only [↓vP0, vQ0, vT0, simprocAttr]
    refine chk_intro (by omega) ?_
    simp (maxSteps := 2000000) only [↓vP0, vQ0, vT0, simprocAttr]
    refine loopK_ren tyok hD (α := Nat × Enc) (fun s => flush s.1 s.2 = Enc.put ⟨kd, st, lo, hi, out⟩ c _ ∧ BdOk s.2.lo s.2.hi ∧ Wide s.1 s.2.lo s.2.hi ∧ s.2.out.length + s.1 ≤ 1099511627780) (fun s => s.1)
      (fun s => [.ptr 0 0, .junk, .junk, .junk, .junk, .junk, .junk, .junk, .junk, .junk, .junk, .junk, .junk, .junk, .junk, .junk, .junk, .junk, .junk, .junk, .junk, .junk, .junk, .junk, .junk, .junk, .junk, .junk, .junk, .junk, .junk, .junk, .junk, .junk, .junk, .junk, .junk, .junk, .junk, .junk, .junk, .junk, .junk, .junk, .junk, .junk, .junk, .junk, .junk, .junk, .junk, .junk, .junk, .junk, .junk, .junk, .junk, .junk, .junk, .junk, .junk, .junk, .junk, .junk, .junk, .junk, .junk, .junk, .junk, .junk, .junk, .junk, .junk, .junk, .junk, .junk, .junk, .junk, .junk, .junk, .junk, .junk, .junk, .junk, .junk, .junk, .junk, .junk, .junk, .junk, .junk, .junk, .junk, .junk, .junk, .junk, .junk, .junk, .junk, .junk, .junk, .junk, .junk, .junk, .junk]) (fun s => rEncM s.2) (4, Enc.part ⟨kd, st, lo, hi, out⟩ c _) ⟨rfl, hpart.1, hpart.2, by simp [Enc.part] at hlen ⊢; omega⟩ ⟨[2], ?_⟩ ?_
    · simp [leR, rEncM, rEncC, Enc.part]
      simp [ren, rens, sg, sig, okIn, okIns, exK, leK, leF, leV, matK, objM, renO, roSame, lh, born, AObj.born, AObj.live, injOk, kindOf, rens_ints, okIns_ints, List.range, List.range.loop, mrg, mset]
    rintro ⟨n, kd', st', lo', hi', out'⟩ ⟨hf, hbd, hw, hol⟩
    simp only at hf hbd hw hol
    have ⟨w1, w2, w3⟩ := hbd
    simp only [rEncM, rEncC]
    simp (maxSteps := 2000000) only [↓vP0, vQ0, vT0, simprocAttr]
    refine callK_pure (c_Fixed lo' hi' hbd) rfl rfl ?_
    simp (maxSteps := 2000000) only [↓vP0, vQ0, vT0, simprocAttr]
    (with_reducible first | refine condK_dec (fun h => ?_) (fun h => ?_) | refine condK_beq (fun h => ?_) (fun h => ?_) | refine condK_bne (fun h => ?_) (fun h => ?_) | refine condK_intro (fun h => ?_) (fun h => ?_))
    · cases n with
      | zero => exact absurd h (hw.zero hbd)
      | succ n =>
        simp (maxSteps := 2000000) only [↓vP0, vQ0, vT0, simprocAttr]
        refine drawK_of tyok rfl (usL [[], [], [], [], [12]]) (fun i => if i = 12 then .below 1 else .below 0) (by kernel_rfl) ?_
        simp (maxSteps := 2000000) only [↓vP0, vQ0, vT0, simprocAttr]
        refine chk_intro (by omega) ?_
        simp (maxSteps := 2000000) only [↓vP0, vQ0, vT0, simprocAttr]
        refine callK_pure (c_Shifted lo' hi' hbd) rfl rfl ?_
        simp (maxSteps := 2000000) only [↓vP0, vQ0, vT0, simprocAttr]
        have ⟨s1, s2⟩ := hw.shift (e := ⟨kd', st', lo', hi', out'⟩) hbd h
        have w8 : hi' / 16777216 % 256 = hi' / 16777216 := by omega
        refine ⟨(n, Enc.shift ⟨kd', st', lo', hi', out'⟩), ⟨by rw [← hf]; simp [flush, h], s1, s2, by simp [Enc.shift]; omega⟩, by simp, [5], ?_⟩
        simp (disch := omega) only [fdv, wru8, w8, ints_snoc]
        simp [leR, rEncM, rEncC, Enc.shift]
        simp [ren, rens, sg, sig, okIn, okIns, exK, leK, leF, leV, matK, objM, renO, roSame, lh, born, AObj.born, AObj.live, injOk, kindOf, rens_ints, okIns_ints, List.range, List.range.loop, mrg, mset]
    · simp (maxSteps := 2000000) only [↓vP0, vQ0, vT0, simprocAttr]
      have hfl : flush n ⟨kd', st', lo', hi', out'⟩ = ⟨kd', st', lo', hi', out'⟩ := by cases n <;> simp [flush, h]
      refine exit_of [3] (.int .i64 0) (rEncM ⟨kd', st', lo', hi', out'⟩) ⟨rfl, by rw [← hf, hfl]; rfl⟩ ?_ ?_ rfl ?_ ?_ <;> simp [rEncM, rEncC, rEncL] <;> simp [ren, rens, sg, sig, okIn, okIns, exK, leK, leF, leV, matK, objM, renO, roSame, lh, born, AObj.born, AObj.live, injOk, kindOf, rens_ints, okIns_ints, List.range, List.range.loop, mrg, mset]
end Go.Proofs.Ytbfefpkhalegmaa

set_option linter.unusedVariables false
set_option linter.unusedSimpArgs false
namespace Go.Proofs.Ytbfefpkhalegmaa
open Go
set_option maxHeartbeats 4000000
set_option maxRecDepth 20000

theorem c_pValid (kd : Int) (st : List Int) (h : StsOk kd st) : LCall Try.prog 81 [.agg [.int .i64 kd, .slice 0 0 st.length]] [.ro (ints .i64 st) 3] fun r L => r = .bool true ∧ L = [.ro (ints .i64 st) 3] := by
  have hlen := h.2.1
  refine lcall_of_vc tyok Try.func81 rfl (by rfl) Try.results81 Try.ntmps81 ?_; intro C hD
  have hst := fun i hi => h.get (i := i) hi
  have e0 : decide ((8192 : Int) < (st.length : Int)) = false := by simp; omega
  rcases h.1 with rfl | rfl
  · simp (maxSteps := 2000000) only [↓vP0, vQ0, vT0, simprocAttr, e0]
    refine loopK_of tyok hD (α := Nat) (fun i => i ≤ st.length) (fun i => st.length - i) (fun i => [.junk, .junk, .junk, .int .i64 64, .junk, .junk, .junk, .junk, .junk, .junk, .junk, .junk, .junk, .junk, .junk, .junk, .junk, .junk, .junk, .junk, .junk, .junk, .junk, .junk, .slice 0 0 st.length, .int .i64 st.length, .int .i64 i, .junk, .junk, .junk, .junk, .junk, .junk, .junk, .junk, .junk, .junk, .junk]) (fun i => [.ro (ints .i64 st) 3]) 0 (by omega) (by (refine ⟨by simp [leF, leV] <;> rfl, ⟨_, by first | rfl | exact (List.append_nil _).symm⟩, by simp, by simp [okIns, okIn, okIns_ints], by simp [AObj.born, okIns, okIn, AObj.cells, okIns_ints]⟩)) ?_
    intro i hi
    simp (maxSteps := 2000000) only [↓vP0, vQ0, vT0, simprocAttr]
    (with_reducible first | refine condK_dec (fun h => ?_) (fun h => ?_) | refine condK_beq (fun h => ?_) (fun h => ?_) | refine condK_bne (fun h => ?_) (fun h => ?_) | refine condK_intro (fun h => ?_) (fun h => ?_))
    · have hi' : i < st.length := by omega
      have ⟨h1, h2⟩ := hst i hi'
      have e1 : decide (st.getD i 0 < 0) = false := decide_eq_false (by omega)
      have e2 : decide ((64 : Int) ≤ st.getD i 0) = false := decide_eq_false (by rw [if_pos rfl] at h2; omega)
      simp (maxSteps := 2000000) only [↓vP0, vQ0, vT0, simprocAttr]
      refine chk_intro (by omega) ?_
      simp (maxSteps := 2000000) only [↓vP0, vQ0, vT0, simprocAttr, ints_get _ _ _ hi', e1, e2]
      simp (disch := omega) only [wr64, wru64, wru8, tdv, tmd, fdv]
      refine ⟨i + 1, by omega, by omega, ?_⟩
      rw [Int.natCast_add]
      (refine ⟨by simp [leF, leV] <;> rfl, ⟨_, by first | rfl | exact (List.append_nil _).symm⟩, by simp, by simp [okIns, okIn, okIns_ints], by simp [AObj.born, okIns, okIn, AObj.cells, okIns_ints]⟩)
    · simp (maxSteps := 2000000) only [↓vP0, vQ0, vT0, simprocAttr]
      exact exit_keep (L1 := [.ro (ints .i64 st) 3]) (G := []) ⟨rfl, rfl⟩ trivial ⟨⟨rfl, by simp [okIns_ints]⟩, trivial⟩
  · simp (maxSteps := 2000000) only [↓vP0, vQ0, vT0, simprocAttr, e0]
    refine loopK_of tyok hD (α := Nat) (fun i => i ≤ st.length) (fun i => st.length - i) (fun i => [.junk, .junk, .junk, .int .i64 65536, .junk, .junk, .junk, .junk, .junk, .junk, .junk, .junk, .junk, .junk, .junk, .junk, .junk, .junk, .junk, .junk, .junk, .junk, .junk, .junk, .slice 0 0 st.length, .int .i64 st.length, .int .i64 i, .junk, .junk, .junk, .junk, .junk, .junk, .junk, .junk, .junk, .junk, .junk]) (fun i => [.ro (ints .i64 st) 3]) 0 (by omega) (by (refine ⟨by simp [leF, leV] <;> rfl, ⟨_, by first | rfl | exact (List.append_nil _).symm⟩, by simp, by simp [okIns, okIn, okIns_ints], by simp [AObj.born, okIns, okIn, AObj.cells, okIns_ints]⟩)) ?_
    intro i hi
    simp (maxSteps := 2000000) only [↓vP0, vQ0, vT0, simprocAttr]
    (with_reducible first | refine condK_dec (fun h => ?_) (fun h => ?_) | refine condK_beq (fun h => ?_) (fun h => ?_) | refine condK_bne (fun h => ?_) (fun h => ?_) | refine condK_intro (fun h => ?_) (fun h => ?_))
    · have hi' : i < st.length := by omega
      have ⟨h1, h2⟩ := hst i hi'
      have e1 : decide (st.getD i 0 < 0) = false := decide_eq_false (by omega)
      have e2 : decide ((65536 : Int) ≤ st.getD i 0) = false := decide_eq_false (by rw [if_neg (by decide)] at h2; omega)
      simp (maxSteps := 2000000) only [↓vP0, vQ0, vT0, simprocAttr]
      refine chk_intro (by omega) ?_
      simp (maxSteps := 2000000) only [↓vP0, vQ0, vT0, simprocAttr, ints_get _ _ _ hi', e1, e2]
      simp (disch := omega) only [wr64, wru64, wru8, tdv, tmd, fdv]
      refine ⟨i + 1, by omega, by omega, ?_⟩
      rw [Int.natCast_add]
      (refine ⟨by simp [leF, leV] <;> rfl, ⟨_, by first | rfl | exact (List.append_nil _).symm⟩, by simp, by simp [okIns, okIn, okIns_ints], by simp [AObj.born, okIns, okIn, AObj.cells, okIns_ints]⟩)
    · simp (maxSteps := 2000000) only [↓vP0, vQ0, vT0, simprocAttr]
      exact exit_keep (L1 := [.ro (ints .i64 st) 3]) (G := []) ⟨rfl, rfl⟩ trivial ⟨⟨rfl, by simp [okIns_ints]⟩, trivial⟩

theorem c_pClone (kd : Int) (st : List Int) (hl : st.length ≤ 10000) : LCall Try.prog 107 [.agg [.int .i64 kd, .slice 0 0 st.length]] [.ro (ints .i64 st) 3] fun r L =>
    r = .agg [.int .i64 kd, .slice 1 0 st.length] ∧ L = [.ro (ints .i64 st) 3, .own (ints .i64 st) 3] := by
  refine lcall_of_vc tyok Try.func107 rfl (by rfl) Try.results107 Try.ntmps107 ?_; intro C hD
  simp (maxSteps := 2000000) only [↓vP0, vQ0, vT0, simprocAttr]
  refine drawK_of tyok rfl (usL [[], [2, 5], [], [], [2]]) (kpL [.below 0, .below 0, .below 3, .below 0, .below 0, .below 3]) (by kernel_rfl) ?_
  simp (maxSteps := 2000000) only [↓vP0, vQ0, vT0, simprocAttr]
  refine chk_intro (by first | omega | (simp [ints_length, ints_cell1, ints_take, ints_drop]; try omega)) ?_
  simp (maxSteps := 2000000) only [↓vP0, vQ0, vT0, simprocAttr]
  refine exit_of [3] (.agg [.int .i64 kd, .slice 1 0 st.length]) [.ro (ints .i64 st) 3, .own (ints .i64 st) 3] ⟨rfl, rfl⟩ ?_ ?_ rfl ?_ ?_
  all_goals simp [ren, rens, sg, sig, okIn, okIns, exK, leK, leF, leV, matK, objM, renO, roSame, lh, born, AObj.born, AObj.live, injOk, kindOf, rens_ints, okIns_ints, List.range, List.range.loop, mrg, mset]


abbrev tabL : List Int := [2048, 1792, 1568, 1372, 1201, 1051, 920, 805, 705, 617, 540, 473, 414, 363, 318, 279, 245, 215, 189, 166, 146, 128, 112, 98, 86, 76, 67, 59, 52, 46, 41, 36]
theorem tabL_get (k : Nat) (h : k < 32) : tabL.getD k 0 = unl k := by
  have key : ∀ n, n < 32 → tabL.getD n 0 = unl n := by decide
  exact key k h

/-- The table's cells. -/
def tabV : List AV := ints .i64 tabL
theorem tabV_length : tabV.length = 32 := rfl
theorem tabV_cell1 : tabV.all AV.cell1 = true := ints_cell1 _ _
theorem tabV_rens (σ : Nat → Nat) : rens σ tabV = tabV := rens_ints σ _ _
theorem tabV_okIns (B : Nat → Prop) : okIns B tabV = True := okIns_ints B _ _
theorem tabV_plain : plainVs tabV = true := ints_plain _ _
theorem tabV_get (k : Nat) (h : k < 32) : tabV[k]? = some (.int .i64 (unl k)) := by
  have := ints_get .i64 tabL k h
  rw [tabL_get k h] at this
  exact this
def tabAt (i : Nat) : List Int := tabL.take i ++ List.replicate (32 - i) 0
theorem tabAt_len (i : Nat) (h : i < 33) : (tabAt i).length = 32 := by
  have key : ∀ n, n < 33 → (tabAt n).length = 32 := by decide
  exact key i h
theorem tabAt_step (i : Nat) (h : i < 32) : (tabAt i).set i (unl i) = tabAt (i + 1) := by
  have key : ∀ n, n < 32 → (tabAt n).set n (unl n) = tabAt (n + 1) := by decide
  exact key i h

theorem c_chances : LCall Try.prog 121 [] [] fun r L => r = .agg tabV ∧ L = [] := by
  refine lcall_of_vc tyok Try.func121 rfl (by rfl) Try.results121 Try.ntmps121 ?_; intro C hD
  simp (maxSteps := 2000000) only [↓vP0, vQ0, vT0, simprocAttr]
  have hz : [AV.int .i64 0, AV.int .i64 0, AV.int .i64 0, AV.int .i64 0, AV.int .i64 0, AV.int .i64 0, AV.int .i64 0, AV.int .i64 0, AV.int .i64 0, AV.int .i64 0, AV.int .i64 0, AV.int .i64 0, AV.int .i64 0, AV.int .i64 0, AV.int .i64 0, AV.int .i64 0, AV.int .i64 0, AV.int .i64 0, AV.int .i64 0, AV.int .i64 0, AV.int .i64 0, AV.int .i64 0, AV.int .i64 0, AV.int .i64 0, AV.int .i64 0, AV.int .i64 0, AV.int .i64 0, AV.int .i64 0, AV.int .i64 0, AV.int .i64 0, AV.int .i64 0, AV.int .i64 0] = ints .i64 (tabAt 0) := rfl
  rw [hz]
  refine loopK_of tyok hD (α := Nat) (fun i => i ≤ 32) (fun i => 32 - i) (fun i => [.ptr 0 0, .ptr 1 0, .int .i64 (unl i), .junk, .int .i64 i, .junk, .junk, .junk, .junk, .junk, .junk, .junk, .junk, .junk, .junk, .junk]) (fun i => [.own (ints .i64 (tabAt 0)) 120, .own (ints .i64 (tabAt i)) 120]) 0 (by omega) (by (refine ⟨by simp [leF, leV] <;> rfl, ⟨_, by first | rfl | exact (List.append_nil _).symm⟩, by simp, by simp [okIns, okIn, okIns_ints], by simp [AObj.born, okIns, okIn, AObj.cells, okIns_ints]⟩)) ?_
  intro i hi
  have hu := unl_pos i
  have hlen := tabAt_len i (by omega)
  simp (maxSteps := 2000000) only [↓vP0, vQ0, vT0, simprocAttr]
  (with_reducible first | refine condK_dec (fun h => ?_) (fun h => ?_) | refine condK_beq (fun h => ?_) (fun h => ?_) | refine condK_bne (fun h => ?_) (fun h => ?_) | refine condK_intro (fun h => ?_) (fun h => ?_))
  · have hi' : i < 32 := by omega
    simp (maxSteps := 2000000) only [↓vP0, vQ0, vT0, simprocAttr]
    refine chk_intro (by omega) ?_
    simp (maxSteps := 2000000) only [↓vP0, vQ0, vT0, simprocAttr]
    refine chk_intro (by rw [hlen]; omega) ?_
    simp (maxSteps := 2000000) only [↓vP0, vQ0, vT0, simprocAttr]
    simp (disch := omega) only [wr64, wru64, wru8, tdv, tmd, fdv]
    rw [tabAt_step i hi']
    refine ⟨i + 1, by omega, by omega, ?_⟩
    simp only [unl, Int.natCast_add, Int.cast_ofNat_Int]
    (refine ⟨by simp [leF, leV] <;> rfl, ⟨_, by first | rfl | exact (List.append_nil _).symm⟩, by simp, by simp [okIns, okIn, okIns_ints], by simp [AObj.born, okIns, okIn, AObj.cells, okIns_ints]⟩)
  · have : i = 32 := by omega
    subst this
    have h32 : ints .i64 (tabAt 32) = [AV.int .i64 2048, AV.int .i64 1792, AV.int .i64 1568, AV.int .i64 1372, AV.int .i64 1201, AV.int .i64 1051, AV.int .i64 920, AV.int .i64 805, AV.int .i64 705, AV.int .i64 617, AV.int .i64 540, AV.int .i64 473, AV.int .i64 414, AV.int .i64 363, AV.int .i64 318, AV.int .i64 279, AV.int .i64 245, AV.int .i64 215, AV.int .i64 189, AV.int .i64 166, AV.int .i64 146, AV.int .i64 128, AV.int .i64 112, AV.int .i64 98, AV.int .i64 86, AV.int .i64 76, AV.int .i64 67, AV.int .i64 59, AV.int .i64 52, AV.int .i64 46, AV.int .i64 41, AV.int .i64 36] := rfl
    rw [← hz, h32]
    simp (maxSteps := 2000000) only [↓vP0, vQ0, vT0, simprocAttr]
    exact exit_keep (L1 := []) ⟨rfl, rfl⟩ (okIn_plain _ _ (by rfl)) trivial

theorem c_chance (kd s : Int) (hk : KdOk kd) (hs : StOk kd s) : LCall Try.prog 127 [.agg tabV, .int .i64 kd, .int .i64 s] [] fun r L => r = .int .i64 (likely kd s) ∧ L = [] := by
  obtain ⟨hs0, hs1⟩ := hs
  have hs2 : s < 65536 := by split at hs1 <;> omega
  refine lcall_of_vc tyok Try.func127 rfl (by rfl) Try.results127 Try.ntmps127 ?_; intro C hD
  simp (maxSteps := 2000000) only [↓vP0, vQ0, vT0, simprocAttr, tabV_length, tabV_cell1]
  (with_reducible first | refine condK_dec (fun h => ?_) (fun h => ?_) | refine condK_beq (fun h => ?_) (fun h => ?_) | refine condK_bne (fun h => ?_) (fun h => ?_) | refine condK_intro (fun h => ?_) (fun h => ?_))
  · subst h
    simp (maxSteps := 2000000) only [↓vP0, vQ0, vT0, simprocAttr, tabV_length, tabV_cell1]
    refine chk_intro (by (try simp (disch := omega) only [wr64, wru64, wru8, tdv, tmd, fdv]); omega) ?_
    simp (maxSteps := 2000000) only [↓vP0, vQ0, vT0, simprocAttr, tabV_length, tabV_cell1]
    simp (disch := omega) only [wr64, wru64, wru8, tdv, tmd, fdv]
    have h1 : 0 < 2 * (s / 256) + 2 * (s % 256) + 2 := by omega
    have h2 : (2 * (s % 256) + 1) * 4096 / (2 * (s / 256) + 2 * (s % 256) + 2) ≤ (2 * (s % 256) + 1) * 4096 := Int.ediv_le_self _ (by omega)
    have h3 : 0 ≤ (2 * (s % 256) + 1) * 4096 / (2 * (s / 256) + 2 * (s % 256) + 2) := Int.ediv_nonneg (by omega) (by omega)
    rw [wr64 _ (by omega) (by omega)]
    exact exit_keep (L1 := []) (G := [_]) ⟨by simp [likely], rfl⟩ trivial trivial
  · have hk0 : kd = 0 := by rcases hk with h' | h' <;> omega
    subst hk0
    have hs3 : s < 64 := by simpa using hs1
    simp (maxSteps := 2000000) only [↓vP0, vQ0, vT0, simprocAttr, tabV_length, tabV_cell1]
    (with_reducible first | refine condK_dec (fun h => ?_) (fun h => ?_) | refine condK_beq (fun h => ?_) (fun h => ?_) | refine condK_bne (fun h => ?_) (fun h => ?_) | refine condK_intro (fun h => ?_) (fun h => ?_))
    · have hg := tabV_get (s - 32).toNat (by omega)
      have hu := unl_pos (s - 32).toNat
      have e : (s % 32).toNat = (s - 32).toNat := by omega
      simp (maxSteps := 2000000) only [↓vP0, vQ0, vT0, simprocAttr, tabV_length, tabV_cell1]
      refine chk_intro (by simp (disch := omega) only [wr64, wru64, wru8, tdv, tmd, fdv]; omega) ?_
      simp (disch := omega) only [wr64, wru64, wru8, tdv, tmd, fdv]
      simp (maxSteps := 2000000) only [↓vP0, vQ0, vT0, simprocAttr, hg, tabV_length, tabV_cell1]
      simp (disch := omega) only [wr64, wru64, wru8, tdv, tmd, fdv]
      exact exit_keep (L1 := []) (G := [_]) ⟨by rw [likely, if_pos rfl, if_neg (by omega), e], rfl⟩ trivial trivial
    · have hg := tabV_get s.toNat (by omega)
      have e : (s % 32).toNat = s.toNat := by omega
      simp (maxSteps := 2000000) only [↓vP0, vQ0, vT0, simprocAttr, tabV_length, tabV_cell1]
      refine chk_intro (by omega) ?_
      simp (maxSteps := 2000000) only [↓vP0, vQ0, vT0, simprocAttr, hg, tabV_length, tabV_cell1]
      exact exit_keep (L1 := []) (G := [_]) ⟨by rw [likely, if_pos rfl, if_pos (by omega), e], rfl⟩ trivial trivial

theorem c_next (kd s bit : Int) (hk : KdOk kd) (hs : StOk kd s) (hb : KdOk bit) : LCall Try.prog 126 [.int .i64 kd, .int .i64 s, .int .i64 bit] [] fun r L => r = .int .i64 (after kd s bit) ∧ L = [] := by
  obtain ⟨hs0, hs1⟩ := hs
  have hs2 : s < 65536 := by split at hs1 <;> omega
  have hb2 : 0 ≤ bit ∧ bit ≤ 1 := by rcases hb with h | h <;> omega
  refine lcall_of_vc tyok Try.func126 rfl (by rfl) Try.results126 Try.ntmps126 ?_; intro C hD
  simp (maxSteps := 2000000) only [↓vP0, vQ0, vT0, simprocAttr]
  (with_reducible first | refine condK_dec (fun h => ?_) (fun h => ?_) | refine condK_beq (fun h => ?_) (fun h => ?_) | refine condK_bne (fun h => ?_) (fun h => ?_) | refine condK_intro (fun h => ?_) (fun h => ?_))
  · subst h
    rcases hb with rfl | rfl
    · simp (maxSteps := 2000000) only [↓vP0, vQ0, vT0, simprocAttr]
      simp (disch := omega) only [wr64, wru64, wru8, tdv, tmd, fdv]
      (with_reducible first | refine condK_dec (fun h => ?_) (fun h => ?_) | refine condK_beq (fun h => ?_) (fun h => ?_) | refine condK_bne (fun h => ?_) (fun h => ?_) | refine condK_intro (fun h => ?_) (fun h => ?_))
      · simp (maxSteps := 2000000) only [↓vP0, vQ0, vT0, simprocAttr]
        simp (disch := omega) only [wr64, wru64, wru8, tdv, tmd, fdv]
        exact exit_keep (L1 := []) ⟨by simp [after, bump, *], rfl⟩ trivial trivial
      · simp (maxSteps := 2000000) only [↓vP0, vQ0, vT0, simprocAttr]
        simp (disch := omega) only [wr64, wru64, wru8, tdv, tmd, fdv]
        exact exit_keep (L1 := []) ⟨by simp [after, bump, *], rfl⟩ trivial trivial
    · simp (maxSteps := 2000000) only [↓vP0, vQ0, vT0, simprocAttr]
      simp (disch := omega) only [wr64, wru64, wru8, tdv, tmd, fdv]
      (with_reducible first | refine condK_dec (fun h => ?_) (fun h => ?_) | refine condK_beq (fun h => ?_) (fun h => ?_) | refine condK_bne (fun h => ?_) (fun h => ?_) | refine condK_intro (fun h => ?_) (fun h => ?_))
      · simp (maxSteps := 2000000) only [↓vP0, vQ0, vT0, simprocAttr]
        simp (disch := omega) only [wr64, wru64, wru8, tdv, tmd, fdv]
        exact exit_keep (L1 := []) ⟨by simp [after, bump, *], rfl⟩ trivial trivial
      · simp (maxSteps := 2000000) only [↓vP0, vQ0, vT0, simprocAttr]
        simp (disch := omega) only [wr64, wru64, wru8, tdv, tmd, fdv]
        exact exit_keep (L1 := []) ⟨by simp [after, bump, *], rfl⟩ trivial trivial
  · have hk0 : kd = 0 := by rcases hk with h' | h' <;> omega
    subst hk0
    have hs3 : s < 64 := by simpa using hs1
    simp (maxSteps := 2000000) only [↓vP0, vQ0, vT0, simprocAttr]
    simp (disch := omega) only [wr64, wru64, wru8, tdv, tmd, fdv]
    (with_reducible first | refine condK_dec (fun h => ?_) (fun h => ?_) | refine condK_beq (fun h => ?_) (fun h => ?_) | refine condK_bne (fun h => ?_) (fun h => ?_) | refine condK_intro (fun h => ?_) (fun h => ?_))
    · simp (maxSteps := 2000000) only [↓vP0, vQ0, vT0, simprocAttr]
      simp (disch := omega) only [wr64, wru64, wru8, tdv, tmd, fdv]
      exact exit_keep (L1 := []) ⟨by simp [after, h], rfl⟩ trivial trivial
    · simp (maxSteps := 2000000) only [↓vP0, vQ0, vT0, simprocAttr]
      simp (disch := omega) only [wr64, wru64, wru8, tdv, tmd, fdv]
      (with_reducible first | refine condK_dec (fun h => ?_) (fun h => ?_) | refine condK_beq (fun h => ?_) (fun h => ?_) | refine condK_bne (fun h => ?_) (fun h => ?_) | refine condK_intro (fun h => ?_) (fun h => ?_))
      · simp (maxSteps := 2000000) only [↓vP0, vQ0, vT0, simprocAttr]
        simp (disch := omega) only [wr64, wru64, wru8, tdv, tmd, fdv]
        exact exit_keep (L1 := []) ⟨by simp [after, *], rfl⟩ trivial trivial
      · simp (maxSteps := 2000000) only [↓vP0, vQ0, vT0, simprocAttr]
        simp (disch := omega) only [wr64, wru64, wru8, tdv, tmd, fdv]
        exact exit_keep (L1 := []) ⟨by simp [after, *]; omega, rfl⟩ trivial trivial
end Go.Proofs.Ytbfefpkhalegmaa

set_option linter.unusedVariables false
set_option linter.unusedSimpArgs false
namespace Go.Proofs.Ytbfefpkhalegmaa
open Go
set_option maxHeartbeats 4000000
set_option maxRecDepth 20000

theorem and_32 (a : Int) (h0 : 0 ≤ a) (h1 : a < 18446744073709551616) : andI 64 a 4294967295 = a % 4294967296 := by
  unfold andI
  obtain ⟨n, rfl⟩ := Int.eq_ofNat_of_zero_le h0
  rw [BitVec.toNat_and, BitVec.toNat_ofInt, BitVec.toNat_ofInt]
  have e1 : ((n : Int) % (2 ^ 64 : Nat)).toNat = n := by
    have : ((2 ^ 64 : Nat) : Int) = 18446744073709551616 := by decide
    rw [this]; omega
  have e2 : ((4294967295 : Int) % (2 ^ 64 : Nat)).toNat = 2 ^ 32 - 1 := by decide
  rw [e1, e2, Nat.and_two_pow_sub_one_eq_mod]
  omega
theorem or_255 (a : Int) (h0 : 0 ≤ a) (h1 : a < 18446744073709551616) (h2 : a % 256 = 0) : orI 64 a 255 = a + 255 := by
  unfold orI
  obtain ⟨n, rfl⟩ := Int.eq_ofNat_of_zero_le h0
  rw [BitVec.toNat_or, BitVec.toNat_ofInt, BitVec.toNat_ofInt]
  have e1 : ((n : Int) % (2 ^ 64 : Nat)).toNat = n := by
    have : ((2 ^ 64 : Nat) : Int) = 18446744073709551616 := by decide
    rw [this]; omega
  have e2 : ((255 : Int) % (2 ^ 64 : Nat)).toNat = 255 := by decide
  rw [e1, e2]
  obtain ⟨m, rfl⟩ : ∃ m, n = 2 ^ 8 * m := ⟨n / 256, by omega⟩
  rw [← Nat.two_pow_add_eq_or_of_lt (by decide) m]
  omega

/-- The cells of an interval (its states are object s), and what lies behind them. -/
def ivC (kd : Int) (s n : Nat) (lo hi : Int) (rest : List AV) : List AV := .int .i64 kd :: .slice s 0 n :: (tabV ++ (.int .u64 lo :: .int .u64 hi :: rest))
section
variable (kd : Int) (s n : Nat) (lo hi : Int) (rest : List AV) (v : AV)
theorem ivC_len : (ivC kd s n lo hi rest).length = 36 + rest.length := by simp [ivC, tabV_length]; omega
theorem ivC_g0 : (ivC kd s n lo hi rest)[0]? = some (.int .i64 kd) := by simp [ivC]
theorem ivC_g1 : (ivC kd s n lo hi rest)[1]? = some (.slice s 0 n) := by simp [ivC]
theorem ivC_g34 : (ivC kd s n lo hi rest)[34]? = some (.int .u64 lo) := by simp [ivC, tabV, ints]
theorem ivC_g35 : (ivC kd s n lo hi rest)[35]? = some (.int .u64 hi) := by simp [ivC, tabV, ints]
theorem ivC_g36 : (ivC kd s n lo hi rest)[36]? = rest[0]? := by simp [ivC, tabV, ints]
theorem ivC_g37 : (ivC kd s n lo hi rest)[37]? = rest[1]? := by simp [ivC, tabV, ints]
theorem ivC_g38 : (ivC kd s n lo hi rest)[38]? = rest[2]? := by simp [ivC, tabV, ints]
theorem ivC_g39 : (ivC kd s n lo hi rest)[39]? = rest[3]? := by simp [ivC, tabV, ints]
theorem ivC_g40 : (ivC kd s n lo hi rest)[40]? = rest[4]? := by simp [ivC, tabV, ints]
theorem ivC_g41 : (ivC kd s n lo hi rest)[41]? = rest[5]? := by simp [ivC, tabV, ints]
theorem ivC_s34 (x : Int) : (ivC kd s n lo hi rest).set 34 (.int .u64 x) = ivC kd s n x hi rest := by simp [ivC, tabV, ints]
theorem ivC_s35 (x : Int) : (ivC kd s n lo hi rest).set 35 (.int .u64 x) = ivC kd s n lo x rest := by simp [ivC, tabV, ints]
theorem ivC_s36 : (ivC kd s n lo hi rest).set 36 v = ivC kd s n lo hi (rest.set 0 v) := by simp [ivC, tabV, ints]
theorem ivC_s37 : (ivC kd s n lo hi rest).set 37 v = ivC kd s n lo hi (rest.set 1 v) := by simp [ivC, tabV, ints]
theorem ivC_s38 : (ivC kd s n lo hi rest).set 38 v = ivC kd s n lo hi (rest.set 2 v) := by simp [ivC, tabV, ints]
theorem ivC_s39 : (ivC kd s n lo hi rest).set 39 v = ivC kd s n lo hi (rest.set 3 v) := by simp [ivC, tabV, ints]
theorem ivC_s40 : (ivC kd s n lo hi rest).set 40 v = ivC kd s n lo hi (rest.set 4 v) := by simp [ivC, tabV, ints]
theorem ivC_s41 : (ivC kd s n lo hi rest).set 41 v = ivC kd s n lo hi (rest.set 5 v) := by simp [ivC, tabV, ints]
theorem ivC_t2 : (ivC kd s n lo hi rest).take 2 = [.int .i64 kd, .slice s 0 n] := by simp [ivC]
theorem ivC_t36 : (ivC kd s n lo hi rest).take 36 = ivC kd s n lo hi [] := by simp [ivC, tabV, ints]
theorem ivC_tab : ((ivC kd s n lo hi rest).drop 2).take 32 = tabV := by simp [ivC, tabV, ints]
theorem ivC_rens (σ : Nat → Nat) : rens σ (ivC kd s n lo hi rest) = ivC kd (σ s) n lo hi (rens σ rest) := by
  have h : rens σ (tabV ++ (.int .u64 lo :: .int .u64 hi :: rest)) = tabV ++ (.int .u64 lo :: .int .u64 hi :: rens σ rest) := by
    rw [rens_eq, List.map_append, ← rens_eq, ← rens_eq, tabV_rens]
    simp only [rens, ren]
  simp only [ivC, rens, ren, h]
theorem ivC_okIns (B : Nat → Prop) : okIns B (ivC kd s n lo hi rest) = (B s ∧ okIns B rest) := by
  have h : okIns B (tabV ++ (.int .u64 lo :: .int .u64 hi :: rest)) = okIns B rest := by
    have h0 := tabV_okIns B
    replace h0 := okIns_iff.1 (of_eq_true h0)
    refine propext ⟨fun h => ?_, fun h => ?_⟩
    · rw [okIns_iff] at *
      exact fun v hv => h v (by simp [hv])
    · rw [okIns_iff] at *
      intro v hv
      simp only [List.mem_append, List.mem_cons] at hv
      rcases hv with hv | rfl | rfl | hv
      · exact h0 v hv
      · trivial
      · trivial
      · exact h v hv
  simp only [ivC, okIns, okIn, h, true_and]
theorem ivC_cell1 : (ivC kd s n lo hi rest).all AV.cell1 = rest.all AV.cell1 := by
  simp only [ivC, List.all_cons, List.all_append, tabV_cell1, AV.cell1, Bool.true_and]
theorem ivC_at36 (f : AV → AV) : atL f 36 (ivC kd s n lo hi rest) = ivC kd s n lo hi (atL f 0 rest) := by simp [ivC, tabV, ints, atL]
theorem ivC_app (r : List AV) : ivC kd s n lo hi rest ++ r = ivC kd s n lo hi (rest ++ r) := by simp [ivC]
theorem ivC_inj (kd' : Int) (s' n' : Nat) (lo' hi' : Int) (rest' : List AV) : (ivC kd s n lo hi rest = ivC kd' s' n' lo' hi' rest') = (kd = kd' ∧ s = s' ∧ n = n' ∧ lo = lo' ∧ hi = hi' ∧ rest = rest') := by
  simp only [ivC, List.cons.injEq, AV.int.injEq, AV.slice.injEq, List.append_cancel_left_eq, true_and, eq_iff_iff]
  constructor
  · rintro ⟨rfl, ⟨rfl, rfl⟩, rfl, rfl, rfl⟩; simp
  · rintro ⟨rfl, rfl, rfl, rfl, rfl, rfl⟩; simp
end

/-- The rules for an interval's cells, in one theorem. -/
theorem vI : type_of% (And.intro @ivC_len (And.intro @ivC_g0 (And.intro @ivC_g1 (And.intro @ivC_g34 (And.intro @ivC_g35 (And.intro @ivC_g36 (And.intro @ivC_g37 (And.intro @ivC_g38 (And.intro @ivC_g39 (And.intro @ivC_g40 (And.intro @ivC_g41 (And.intro @ivC_s34 (And.intro @ivC_s35 (And.intro @ivC_s36 (And.intro @ivC_s37 (And.intro @ivC_s38 (And.intro @ivC_s39 (And.intro @ivC_s40 (And.intro @ivC_s41 (And.intro @ivC_t2 (And.intro @ivC_t36 (And.intro @ivC_tab (And.intro @ivC_rens (And.intro @ivC_cell1 (And.intro @ivC_at36 (And.intro @ivC_app (And.intro @List.set_cons_zero.{0} (@List.set_cons_succ.{0})))))))))))))))))))))))))))) := And.intro @ivC_len (And.intro @ivC_g0 (And.intro @ivC_g1 (And.intro @ivC_g34 (And.intro @ivC_g35 (And.intro @ivC_g36 (And.intro @ivC_g37 (And.intro @ivC_g38 (And.intro @ivC_g39 (And.intro @ivC_g40 (And.intro @ivC_g41 (And.intro @ivC_s34 (And.intro @ivC_s35 (And.intro @ivC_s36 (And.intro @ivC_s37 (And.intro @ivC_s38 (And.intro @ivC_s39 (And.intro @ivC_s40 (And.intro @ivC_s41 (And.intro @ivC_t2 (And.intro @ivC_t36 (And.intro @ivC_tab (And.intro @ivC_rens (And.intro @ivC_cell1 (And.intro @ivC_at36 (And.intro @ivC_app (And.intro @List.set_cons_zero.{0} (@List.set_cons_succ.{0})))))))))))))))))))))))))))

/-- Bytes beside, that the interval's functions leave alone. -/
def SideOk (M : List AObj) : Prop := ∀ o ∈ M, ∃ b, o = .ro (ints .u8 b) 5
theorem keep_side {n : Nat} : ∀ {M : List AObj}, SideOk M → keepL n M M
  | [], _ => trivial
  | o :: M, h => by
    obtain ⟨b, rfl⟩ := h o (List.mem_cons_self ..)
    exact ⟨⟨rfl, by rw [okIns_ints]; trivial⟩, keep_side fun o ho => h o (List.mem_cons_of_mem _ ho)⟩
theorem ok_iv {m : Nat} {kd : Int} {n : Nat} {lo hi : Int} {rest : List AV} (h : okIns (fun i => i < m + 2) rest) : okIns (fun i => i < m + 2) (ivC kd 1 n lo hi rest) := by
  rw [ivC_okIns]; exact ⟨by omega, h⟩

/-- A callee whose end is told. -/
theorem callK_det {P : Program} {f : FuncId} {args args0 : List AV} {L0 L1 L : List AObj} {v : AV} {K : AV → List AObj → Prop} (c : LCall P f args0 L0 fun r L => r = v ∧ L = L1) (s : List Nat)
    (hargs : args = rens (sig s L.length) args0) (hok : okIns (born (lh L0)) args0) (hmat : matK (sig s L.length) (born (lh L0)) L s L0) (hinj : injOk s (L0.map kindOf) = true)
    (hlen : L0.length ≤ L1.length) (hK : K (ren (sig s L.length) v) (mrg (sig s L.length) s L0 L1 L)) : callK P f args L K := by
  refine callK_of c s hargs hok hmat hinj ⟨v, L1, hlen, rfl, rfl⟩ ?_
  rintro r L0' _ ⟨rfl, rfl⟩
  exact hK

theorem exit_keep0 {L0 L1 : List AObj} {R : AV → List AObj → Prop} {r : AV} (hR : R r L1) (hr : okIn (fun i => i < L1.length) r) (hk : keepL L1.length L0 L1) : exitP L0 R r L1 := by
  have := exit_keep (G := []) hR hr hk
  rwa [List.append_nil] at this

section
variable (kd : Int) (st : List Int) (lo hi : Int) (rest : List AV) (e : TypeId) (M : List AObj) (hM : SideOk M) (hrest : okIns (fun i => i < M.length + 2) rest)
include hM hrest

theorem c_same (h : BdOk lo hi) :
    LCall Try.prog 103 [.ptr 0 0] (.ro (ivC kd 1 st.length lo hi rest) e :: .ro (ints .i64 st) 3 :: M) fun r L => r = .bool (lo / 16777216 == hi / 16777216) ∧ L = .ro (ivC kd 1 st.length lo hi rest) e :: .ro (ints .i64 st) 3 :: M := by
  refine lcall_of_vc tyok Try.func103 rfl (by rfl) Try.results103 Try.ntmps103 ?_; intro C hD
  simp (maxSteps := 2000000) only [↓vP0, vQ0, vT0, simprocAttr]
  refine drawK_of tyok rfl (usL []) (kpL []) (by kernel_rfl) ?_
  simp (maxSteps := 2000000) only [↓vP0, vQ0, vT0, simprocAttr, vI]
  simp (disch := omega) only [wr64, wru64, wru8, tdv, tmd, fdv]
  exact exit_keep0 ⟨rfl, rfl⟩ trivial ⟨⟨rfl, ok_iv hrest⟩, ⟨rfl, by rw [okIns_ints]; trivial⟩, keep_side hM⟩

theorem c_mid (h : BdOk lo hi) (hk : StsOk kd st) (c : Nat) (hc : c < st.length) :
    LCall Try.prog 102 [.ptr 0 0, .int .i64 c] (.ro (ivC kd 1 st.length lo hi rest) e :: .ro (ints .i64 st) 3 :: M) fun r L => r = .int .u64 (midI lo hi (likely kd (st.getD c 0))) ∧ L = .ro (ivC kd 1 st.length lo hi rest) e :: .ro (ints .i64 st) 3 :: M := by
  have hl := likely_bd hk.1 (hk.get hc)
  have ⟨a1, a2, a3⟩ := h
  have b1 := mul_bd ((hi - lo) / 4096) (likely kd (st.getD c 0)) 1048576 4096 (by omega) (by omega) (by omega) (by omega)
  have b2 := mul_bd ((hi - lo) % 4096) (likely kd (st.getD c 0)) 4096 4096 (by omega) (by omega) (by omega) (by omega)
  refine lcall_of_vc tyok Try.func102 rfl (by rfl) Try.results102 Try.ntmps102 ?_; intro C hD
  simp (maxSteps := 2000000) only [↓vP0, vQ0, vT0, simprocAttr]
  refine drawK_of tyok rfl (usL [[], [], [], [26], [], [], [], [26]]) (fun i => .below 2) (by kernel_rfl) ?_
  simp (maxSteps := 2000000) only [↓vP0, vQ0, vT0, simprocAttr, vI]
  refine chk_intro (by omega) ?_
  simp (maxSteps := 2000000) only [↓vP0, vQ0, vT0, simprocAttr, vI]
  refine chk_intro (by omega) ?_
  simp (maxSteps := 2000000) only [↓vP0, vQ0, vT0, simprocAttr, ints_get _ _ _ hc]
  refine callK_pure (c_chance kd _ hk.1 (hk.get hc)) rfl rfl ?_
  simp (maxSteps := 2000000) only [↓vP0, vQ0, vT0, simprocAttr, vI]
  simp (disch := omega) only [wr64, wru64, wru8, tdv, tmd, fdv]
  exact exit_keep0 ⟨rfl, rfl⟩ trivial ⟨⟨rfl, ok_iv hrest⟩, ⟨rfl, by rw [okIns_ints]; trivial⟩, keep_side hM⟩

theorem c_take (h : BdOk lo hi) (hk : StsOk kd st) (c : Nat) (hc : c < st.length) (bit : Int) (hb : KdOk bit) (mid : Int) (hm : 0 ≤ mid ∧ mid ≤ hi) :
    LCall Try.prog 101 [.ptr 0 0, .int .i64 c, .int .i64 bit, .int .u64 mid] (.own (ivC kd 1 st.length lo hi rest) e :: .own (ints .i64 st) 3 :: M) fun r L => r = .tup [] ∧
      L = .own (ivC kd 1 st.length (if bit = 1 then lo else mid + 1) (if bit = 1 then mid else hi) rest) e :: .own (ints .i64 (st.set c (after kd (st.getD c 0) bit))) 3 :: M := by
  have hb' := hb
  have ⟨a1, a2, a3⟩ := h
  refine lcall_of_vc tyok Try.func101 rfl (by rfl) Try.results101 Try.ntmps101 ?_; intro C hD
  rcases hb with rfl | rfl
  all_goals
    simp (maxSteps := 2000000) only [↓vP0, vQ0, vT0, simprocAttr, vI]
    refine chk_intro (by omega) ?_
    simp (maxSteps := 2000000) only [↓vP0, vQ0, vT0, simprocAttr, vI]
    refine drawK_of tyok rfl (usL [[], [], [], [], [20]]) (fun i => if i = 20 then .below 2 else .below 0) (by kernel_rfl) ?_
    simp (maxSteps := 2000000) only [↓vP0, vQ0, vT0, simprocAttr, vI]
    refine chk_intro (by omega) ?_
    simp (maxSteps := 2000000) only [↓vP0, vQ0, vT0, simprocAttr, ints_get _ _ _ hc]
    refine callK_pure (c_next kd _ _ hk.1 (hk.get hc) hb') rfl rfl ?_
    simp (maxSteps := 2000000) only [↓vP0, vQ0, vT0, simprocAttr]
    refine chk_intro (by omega) ?_
    simp (maxSteps := 2000000) only [↓vP0, vQ0, vT0, simprocAttr]
    refine chk_intro (by omega) ?_
    simp (maxSteps := 2000000) only [↓vP0, vQ0, vT0, simprocAttr]
    try simp (disch := omega) only [wr64, wru64, wru8, tdv, tmd, fdv]
    exact exit_keep0 ⟨rfl, rfl⟩ trivial ⟨ok_iv hrest, by rw [keepO_own, okIns_ints]; trivial, keep_side hM⟩

theorem c_lose (h : BdOk lo hi) :
    LCall Try.prog 104 [.ptr 0 0] (.own (ivC kd 1 st.length lo hi rest) e :: .ro (ints .i64 st) 3 :: M) fun r L => r = .int .u8 (lo / 16777216) ∧
      L = .own (ivC kd 1 st.length (lo % 16777216 * 256) (hi % 16777216 * 256 + 255) rest) e :: .ro (ints .i64 st) 3 :: M := by
  have ⟨a1, a2, a3⟩ := h
  refine lcall_of_vc tyok Try.func104 rfl (by rfl) Try.results104 Try.ntmps104 ?_; intro C hD
  simp (maxSteps := 2000000) only [↓vP0, vQ0, vT0, simprocAttr, vI]
  refine chk_intro (by omega) ?_
  simp (maxSteps := 2000000) only [↓vP0, vQ0, vT0, simprocAttr, vI]
  refine chk_intro (by omega) ?_
  simp (maxSteps := 2000000) only [↓vP0, vQ0, vT0, simprocAttr, vI]
  have e1 : lo / 16777216 % 256 = lo / 16777216 := by omega
  have e2 : lo * 256 % 4294967296 = lo % 16777216 * 256 := by omega
  have e3 : hi * 256 % 4294967296 = hi % 16777216 * 256 := by omega
  simp (disch := omega) only [wr64, wru64, wru8, tdv, tmd, fdv, and_32, or_255, e1, e2, e3]
  exact exit_keep0 ⟨rfl, rfl⟩ trivial ⟨ok_iv hrest, ⟨rfl, by rw [okIns_ints]; trivial⟩, keep_side hM⟩
end
end Go.Proofs.Ytbfefpkhalegmaa
