/-
  The digest's plain law: a step tells its arguments apart.
-/
import Derived.Test.YtcejljfammcflaaTranA
set_option linter.unusedVariables false
set_option linter.unusedSimpArgs false
namespace Go.Proofs.Tran
open Go Go.Vc

def K1 : BitVec 64 := 15485907386658061715#64
def K2 : BitVec 64 := 11562461410679940143#64
def foldB (x : BitVec 64) : BitVec 64 := x ^^^ (x >>> 32)
theorem foldB_foldB (x : BitVec 64) : foldB (foldB x) = x := by
  unfold foldB
  rw [BitVec.ushiftRight_xor_distrib, ← BitVec.shiftRight_add]
  have : x >>> (32 + 32) = 0#64 := by
    apply BitVec.eq_of_toNat_eq
    simp only [BitVec.toNat_ushiftRight, BitVec.toNat_ofNat, Nat.shiftRight_eq_div_pow]
    rw [Nat.div_eq_of_lt x.isLt]
  rw [this, BitVec.xor_zero, BitVec.xor_assoc, BitVec.xor_self, BitVec.xor_zero]
theorem foldB_inj {x y : BitVec 64} (h : foldB x = foldB y) : x = y := by rw [← foldB_foldB x, h, foldB_foldB]
theorem mul1 (x : BitVec 64) : x * K1 * 14982988110149298331#64 = x := by
  rw [BitVec.mul_assoc, show K1 * 14982988110149298331#64 = 1#64 by decide +kernel, BitVec.mul_one]
theorem mul2 (x : BitVec 64) : x * K2 * 10636502746458383055#64 = x := by
  rw [BitVec.mul_assoc, show K2 * 10636502746458383055#64 = 1#64 by decide +kernel, BitVec.mul_one]
theorem mul1_inj {x y : BitVec 64} (h : x * K1 = y * K1) : x = y := by rw [← mul1 x, h, mul1]
theorem mul2_inj {x y : BitVec 64} (h : x * K2 = y * K2) : x = y := by rw [← mul2 x, h, mul2]
def stepB (h w : BitVec 64) : BitVec 64 := foldB ((h ^^^ w) * K1) * K2
theorem stepB_left {h h' w : BitVec 64} (e : stepB h w = stepB h' w) : h = h' := by
  have := mul1_inj (foldB_inj (mul2_inj e))
  have := congrArg (· ^^^ w) this
  simpa [BitVec.xor_assoc] using this
theorem stepB_right {h w w' : BitVec 64} (e : stepB h w = stepB h w') : w = w' := by
  have := mul1_inj (foldB_inj (mul2_inj e))
  have := congrArg (h ^^^ ·) this
  simpa [← BitVec.xor_assoc] using this

theorem wrap_nat (n : Nat) : IntKind.u64.wrap (n : Int) = ((n % 2 ^ 64 : Nat) : Int) := by
  simp [IntKind.wrap, IntKind.bits, IntKind.signed]
theorem wrap_bv (x : BitVec 64) : IntKind.u64.wrap (x.toNat : Int) = (x.toNat : Int) := by
  rw [wrap_nat, Nat.mod_eq_of_lt x.isLt]
theorem ofInt_toNat (x : BitVec 64) : BitVec.ofInt 64 (x.toNat : Int) = x := by
  apply BitVec.eq_of_toNat_eq
  simp
theorem xor_eq (a b : Int) : bitF .xor .u64 a b = ((BitVec.ofInt 64 a ^^^ BitVec.ofInt 64 b).toNat : Int) := by
  have : bitF .xor .u64 a b = IntKind.u64.wrap ((BitVec.ofInt 64 a ^^^ BitVec.ofInt 64 b).toNat : Int) := rfl
  rw [this, wrap_bv]
theorem mul_eq (x y : BitVec 64) : IntKind.u64.wrap ((x.toNat : Int) * (y.toNat : Int)) = ((x * y).toNat : Int) := by
  rw [show (x.toNat : Int) * (y.toNat : Int) = ((x.toNat * y.toNat : Nat) : Int) by simp, wrap_nat, BitVec.toNat_mul]
theorem mixW_eq (h w : Int) : mixW h w = (((BitVec.ofInt 64 h ^^^ BitVec.ofInt 64 w) * K1).toNat : Int) := by
  unfold mixW
  rw [xor_eq]
  exact mul_eq _ K1
theorem step0_eq (h w : Int) : step0 h w = ((stepB (BitVec.ofInt 64 h) (BitVec.ofInt 64 w)).toNat : Int) := by
  unfold step0
  rw [mixW_eq]
  generalize hx : (BitVec.ofInt 64 h ^^^ BitVec.ofInt 64 w) * K1 = x
  have hs : ((x.toNat : Int)).fdiv (2 ^ (min (32 : Int).toNat IntKind.u64.bits)) = ((x >>> 32).toNat : Int) := by
    rw [show (2 : Int) ^ (min (32 : Int).toNat IntKind.u64.bits) = ((2 ^ 32 : Nat) : Int) by rfl, BitVec.toNat_ushiftRight, Nat.shiftRight_eq_div_pow]
    rw [Int.fdiv_eq_ediv_of_nonneg _ (Int.natCast_nonneg _)]
    rfl
  rw [hs, xor_eq, ofInt_toNat, ofInt_toNat]
  have := mul_eq (x ^^^ (x >>> 32)) K2
  rw [show ((11562461410679940143 : Int)) = (K2.toNat : Int) by decide +kernel, this]
  unfold stepB foldB
  rw [hx]

/-- A number of 64 bits. -/
def U64 (n : Int) : Prop := 0 ≤ n ∧ n < 18446744073709551616
theorem ofInt_inj {a b : Int} (ha : U64 a) (hb : U64 b) (h : BitVec.ofInt 64 a = BitVec.ofInt 64 b) : a = b := by
  have := congrArg BitVec.toNat h
  rw [BitVec.toNat_ofInt, BitVec.toNat_ofInt] at this
  obtain ⟨a0, a1⟩ := ha
  obtain ⟨b0, b1⟩ := hb
  omega
theorem stepW_u64 (h w : Int) : U64 (stepW h w) := by
  rw [stepW_eq, step0_eq]
  have := (stepB (BitVec.ofInt 64 h) (BitVec.ofInt 64 w)).isLt
  unfold U64
  omega
theorem stepW_left {h h' w : Int} (hh : U64 h) (hh' : U64 h') (e : stepW h w = stepW h' w) : h = h' := by
  rw [stepW_eq, step0_eq, step0_eq] at e
  exact ofInt_inj hh hh' (stepB_left (w := BitVec.ofInt 64 w) (BitVec.eq_of_toNat_eq (by omega)))
theorem stepW_right {h w w' : Int} (hw : U64 w) (hw' : U64 w') (e : stepW h w = stepW h w') : w = w' := by
  rw [stepW_eq, step0_eq, step0_eq] at e
  exact ofInt_inj hw hw' (stepB_right (h := BitVec.ofInt 64 h) (BitVec.eq_of_toNat_eq (by omega)))
theorem wrap_u64 (n : Int) : U64 (IntKind.u64.wrap n) := by
  simp [U64, IntKind.wrap, IntKind.bits, IntKind.signed]
  omega
theorem oth_u64 (k : Int) : U64 (oth k) := by
  rw [← oth_eq, xor_eq]
  have := (BitVec.ofInt 64 k ^^^ BitVec.ofInt 64 1).isLt
  unfold U64
  omega
theorem oth_oth {k : Int} (h : U64 k) : oth (oth k) = k := by
  rw [← oth_eq, ← oth_eq, xor_eq, xor_eq, ofInt_toNat, BitVec.xor_assoc, BitVec.xor_self, BitVec.xor_zero]
  obtain ⟨h0, h1⟩ := h
  rw [BitVec.toNat_ofInt]
  omega
theorem oth_ne {k : Int} (h : U64 k) : oth k ≠ k := by
  intro e
  have h1 : BitVec.ofInt 64 (oth k) = BitVec.ofInt 64 k := by rw [e]
  rw [← oth_eq, xor_eq, ofInt_toNat] at h1
  have h2 := congrArg (BitVec.ofInt 64 k ^^^ ·) h1
  simp only [← BitVec.xor_assoc, BitVec.xor_self, BitVec.zero_xor] at h2
  exact absurd h2 (by decide)

/-! ### Tags -/
theorem foldW_u64 {h : Int} (hh : U64 h) : ∀ l, U64 (foldW h l)
  | [] => hh
  | n :: l => by
    show U64 (foldW (stepW h _) l)
    exact foldW_u64 (stepW_u64 _ _) l
theorem wordsW_u64 (l : List Int) : U64 (wordsW l) := stepW_u64 _ _
theorem tagW_u64 (k : Int) (l : List Int) : U64 (tagW k l) := stepW_u64 _ _
theorem tagW_key {k k' : Int} (hk : U64 k) (hk' : U64 k') {l : List Int} (e : tagW k l = tagW k' l) : k = k' := stepW_left hk hk' e
theorem foldW_left {l : List Int} : ∀ {h h' : Int}, U64 h → U64 h' → foldW h l = foldW h' l → h = h' := by
  induction l with
  | nil => intro h h' _ _ e; exact e
  | cons n l ih =>
    intro h h' hh hh' e
    have e' : foldW (stepW h (IntKind.u64.wrap n)) l = foldW (stepW h' (IntKind.u64.wrap n)) l := e
    exact stepW_left hh hh' (ih (stepW_u64 _ _) (stepW_u64 _ _) e')
theorem init_u64 : U64 512970876019 := by unfold U64; omega
/-- Two lists that differ in one number have different tags. -/
theorem tagW_one {k : Int} {a b : List Int} {n m : Int} (e : tagW k (a ++ n :: b) = tagW k (a ++ m :: b)) : IntKind.u64.wrap n = IntKind.u64.wrap m := by
  have h1 : wordsW (a ++ n :: b) = wordsW (a ++ m :: b) := stepW_right (wordsW_u64 _) (wordsW_u64 _) e
  unfold wordsW at h1
  rw [show (a ++ n :: b).length = (a ++ m :: b).length by simp] at h1
  have h2 := stepW_left (foldW_u64 init_u64 _) (foldW_u64 init_u64 _) h1
  have h3 : ∀ x, foldW 512970876019 (a ++ x :: b) = foldW (stepW (foldW 512970876019 a) (IntKind.u64.wrap x)) b := fun x => by
    unfold foldW; rw [List.foldl_append, List.foldl_cons]
  rw [h3, h3] at h2
  exact stepW_right (wrap_u64 _) (wrap_u64 _) (foldW_left (stepW_u64 _ _) (stepW_u64 _ _) h2)
end Go.Proofs.Tran
