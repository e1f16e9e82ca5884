/-
  The histories' program: its types, and its values as plain numbers and lists.
-/
import Derived.Test.YtpbechemimnikaaVcS
import Derived.Test.YtpbechemimnikaaHisS
import Derived.Test.YtpbechemimnikaaProg
set_option linter.unusedVariables false
set_option linter.unusedSimpArgs false
namespace Go.Proofs.Hist
open Go Go.Vc

noncomputable def PP : Unit → Program := fun _ => Try.prog

def tt : TypeId → Option TI
  | 3 => some { d := .int .i64, size := 1, bytes := 8, zero := .int .i64 0 }
  | 4 => some { d := .bool, size := 1, bytes := 1, zero := .bool false }
  | 5 => some { d := .int .u8, size := 1, bytes := 1, zero := .int .u8 0 }
  | 22 => some { d := .sl 58, size := 1, bytes := 24, zero := .slice none 0 0 }
  | 23 => some { d := .arr 3 5, size := 3, bytes := 3, zero := .agg #[.int .u8 0, .int .u8 0, .int .u8 0] }
  | 25 => some { d := .sl 43, size := 1, bytes := 24, zero := .slice none 0 0 }
  | 27 => some { d := .int .u64, size := 1, bytes := 8, zero := .int .u64 0 }
  | 31 => some { d := .sl 27, size := 1, bytes := 24, zero := .slice none 0 0 }
  | 32 => some { d := .int .i64, size := 1, bytes := 8, zero := .int .i64 0 }
  | 34 => some { d := .st [(31, 0, 1), (32, 1, 1)], size := 2, bytes := 32, zero := .agg #[.slice none 0 0, .int .i64 0] }
  | 38 => some { d := .arr 2 5, size := 2, bytes := 2, zero := .agg #[.int .u8 0, .int .u8 0] }
  | 43 => some { d := .st [(27, 0, 1), (31, 1, 1), (27, 2, 1), (3, 3, 1)], size := 4, bytes := 48, zero := .agg #[.int .u64 0, .slice none 0 0, .int .u64 0, .int .i64 0] }
  | 46 => some { d := .st [(25, 0, 1), (27, 1, 1), (32, 2, 1)], size := 3, bytes := 40, zero := .agg #[.slice none 0 0, .int .u64 0, .int .i64 0] }
  | 56 => some { d := .sl 3, size := 1, bytes := 24, zero := .slice none 0 0 }
  | 58 => some { d := .arr 4 5, size := 4, bytes := 4, zero := .agg #[.int .u8 0, .int .u8 0, .int .u8 0, .int .u8 0] }
  | 62 => some { d := .map 27 4, size := 1, bytes := 8, zero := .map none }
  | 63 => some { d := .map 27 62, size := 1, bytes := 8, zero := .map none }
  | 74 => some { d := .other, size := 1, bytes := 8, zero := .nilFunc }
  | 77 => some { d := .int .u64, size := 1, bytes := 8, zero := .int .u64 0 }
  | 80 => some { d := .sl 62, size := 1, bytes := 24, zero := .slice none 0 0 }
  | _ => none
theorem tt3 : TIok Try.prog 3 { d := .int .i64, size := 1, bytes := 8, zero := .int .i64 0 } := tiok_of (by kernel_rfl) (by kernel_rfl) (fun h => nomatch h)
theorem tt4 : TIok Try.prog 4 { d := .bool, size := 1, bytes := 1, zero := .bool false } := tiok_of (by kernel_rfl) (by kernel_rfl) (fun h => nomatch h)
theorem tt5 : TIok Try.prog 5 { d := .int .u8, size := 1, bytes := 1, zero := .int .u8 0 } := tiok_of (by kernel_rfl) (by kernel_rfl) (fun h => nomatch h)
theorem tt22 : TIok Try.prog 22 { d := .sl 58, size := 1, bytes := 24, zero := .slice none 0 0 } := tiok_of (by kernel_rfl) (by kernel_rfl) (fun h => nomatch h)
theorem tt23 : TIok Try.prog 23 { d := .arr 3 5, size := 3, bytes := 3, zero := .agg #[.int .u8 0, .int .u8 0, .int .u8 0] } := tiok_of (by kernel_rfl) (by kernel_rfl) (fun h => nomatch h)
theorem tt25 : TIok Try.prog 25 { d := .sl 43, size := 1, bytes := 24, zero := .slice none 0 0 } := tiok_of (by kernel_rfl) (by kernel_rfl) (fun h => nomatch h)
theorem tt27 : TIok Try.prog 27 { d := .int .u64, size := 1, bytes := 8, zero := .int .u64 0 } := tiok_of (by kernel_rfl) (by kernel_rfl) (fun h => nomatch h)
theorem tt31 : TIok Try.prog 31 { d := .sl 27, size := 1, bytes := 24, zero := .slice none 0 0 } := tiok_of (by kernel_rfl) (by kernel_rfl) (fun h => nomatch h)
theorem tt32 : TIok Try.prog 32 { d := .int .i64, size := 1, bytes := 8, zero := .int .i64 0 } := tiok_of (by kernel_rfl) (by kernel_rfl) (fun h => nomatch h)
theorem tt34 : TIok Try.prog 34 { d := .st [(31, 0, 1), (32, 1, 1)], size := 2, bytes := 32, zero := .agg #[.slice none 0 0, .int .i64 0] } := tiok_of (by kernel_rfl) (by kernel_rfl) (fun h => nomatch h)
theorem tt38 : TIok Try.prog 38 { d := .arr 2 5, size := 2, bytes := 2, zero := .agg #[.int .u8 0, .int .u8 0] } := tiok_of (by kernel_rfl) (by kernel_rfl) (fun h => nomatch h)
theorem tt43 : TIok Try.prog 43 { d := .st [(27, 0, 1), (31, 1, 1), (27, 2, 1), (3, 3, 1)], size := 4, bytes := 48, zero := .agg #[.int .u64 0, .slice none 0 0, .int .u64 0, .int .i64 0] } := tiok_of (by kernel_rfl) (by kernel_rfl) (fun h => nomatch h)
theorem tt46 : TIok Try.prog 46 { d := .st [(25, 0, 1), (27, 1, 1), (32, 2, 1)], size := 3, bytes := 40, zero := .agg #[.slice none 0 0, .int .u64 0, .int .i64 0] } := tiok_of (by kernel_rfl) (by kernel_rfl) (fun h => nomatch h)
theorem tt56 : TIok Try.prog 56 { d := .sl 3, size := 1, bytes := 24, zero := .slice none 0 0 } := tiok_of (by kernel_rfl) (by kernel_rfl) (fun h => nomatch h)
theorem tt58 : TIok Try.prog 58 { d := .arr 4 5, size := 4, bytes := 4, zero := .agg #[.int .u8 0, .int .u8 0, .int .u8 0, .int .u8 0] } := tiok_of (by kernel_rfl) (by kernel_rfl) (fun h => nomatch h)
theorem tt62 : TIok Try.prog 62 { d := .map 27 4, size := 1, bytes := 8, zero := .map none } := tiok_of (by kernel_rfl) (by kernel_rfl) (fun h => nomatch h)
theorem tt63 : TIok Try.prog 63 { d := .map 27 62, size := 1, bytes := 8, zero := .map none } := tiok_of (by kernel_rfl) (by kernel_rfl) (fun h => nomatch h)
theorem tt74 : TIok Try.prog 74 { d := .other, size := 1, bytes := 8, zero := .nilFunc } := tiok_of (by kernel_rfl) (by kernel_rfl) (fun h => nomatch h)
theorem tt77 : TIok Try.prog 77 { d := .int .u64, size := 1, bytes := 8, zero := .int .u64 0 } := tiok_of (by kernel_rfl) (by kernel_rfl) (fun h => nomatch h)
theorem tt80 : TIok Try.prog 80 { d := .sl 62, size := 1, bytes := 24, zero := .slice none 0 0 } := tiok_of (by kernel_rfl) (by kernel_rfl) (fun h => nomatch h)
theorem tt_ok : ∀ t i, tt t = some i → TIok Try.prog t i := by
  intro t i h
  unfold tt at h
  split at h
  · cases h; exact tt3
  · cases h; exact tt4
  · cases h; exact tt5
  · cases h; exact tt22
  · cases h; exact tt23
  · cases h; exact tt25
  · cases h; exact tt27
  · cases h; exact tt31
  · cases h; exact tt32
  · cases h; exact tt34
  · cases h; exact tt38
  · cases h; exact tt43
  · cases h; exact tt46
  · cases h; exact tt56
  · cases h; exact tt58
  · cases h; exact tt62
  · cases h; exact tt63
  · cases h; exact tt74
  · cases h; exact tt77
  · cases h; exact tt80
  · cases h

def cInt (n : Int) : List SV := [.i .i64 fun _ => n]
def cU8 (n : Int) : List SV := [.i .u8 fun _ => n]
def cU64 (n : Int) : List SV := [.i .u64 fun _ => n]
def Cm.cells (c : Unit → Cm) : List SV := [.i .u64 (fun _ => (c ()).id), .sl 1 cU64 (fun _ => (c ()).par), .i .u64 (fun _ => (c ()).tree), .i .i64 (fun _ => (c ()).no)]
def cCm (c : Cm) : List SV := [.i .u64 (fun _ => c.id), .sl 1 cU64 (fun _ => c.par), .i .u64 (fun _ => c.tree), .i .i64 (fun _ => c.no)]
/-- Four bytes. -/
abbrev B4 := Int × Int × Int × Int × Unit
def cB4 (t : B4) : List SV := [.i .u8 (fun _ => t.1), .i .u8 (fun _ => t.2.1), .i .u8 (fun _ => t.2.2.1), .i .u8 (fun _ => t.2.2.2.1)]
def cTrue (_ : Unit) : List SV := [.bc true]
/-- A set of numbers, as a map to 'true'. -/
def setM (s : Int → Bool) (j : Int) : Option Unit := match s j with
  | true => some ()
  | false => none
def cSet (s : Int → Bool) : List SV := [.mp .u64 cTrue fun _ => setM s]

def eltInt : Elt := ⟨Int, cInt, 0⟩
def eltU64 : Elt := ⟨Int, cU64, 0⟩
def eltCm : Elt := ⟨Cm, cCm, ⟨0, [], 0, 0⟩⟩
def eltB4 : Elt := ⟨B4, cB4, ⟨0, 0, 0, 0, ()⟩⟩
def eltSet : Elt := ⟨Int → Bool, cSet, fun _ => false⟩
theorem cInt_ok (x : Int) : LFL (cInt x) ∧ (cInt x).all SV.one = true := ⟨⟨trivial, trivial⟩, rfl⟩
theorem cU64_ok (x : Int) : LFL (cU64 x) ∧ (cU64 x).all SV.one = true := ⟨⟨trivial, trivial⟩, rfl⟩
theorem cCm_ok (x : Cm) : LFL (cCm x) ∧ (cCm x).all SV.one = true := ⟨⟨trivial, fun y => (cU64_ok y).1, trivial, trivial, trivial⟩, rfl⟩
theorem cB4_ok (x : B4) : LFL (cB4 x) ∧ (cB4 x).all SV.one = true := ⟨⟨trivial, trivial, trivial, trivial, trivial⟩, rfl⟩
theorem cTrue_ok (x : Unit) : LFL (cTrue x) ∧ (cTrue x).all SV.one = true := ⟨⟨trivial, trivial⟩, rfl⟩
theorem cSet_ok (x : Int → Bool) : LFL (cSet x) ∧ (cSet x).all SV.one = true := ⟨⟨fun y => (cTrue_ok y).1, trivial⟩, rfl⟩
def el : TypeId → Option Elt
  | 3 => some eltInt
  | 27 => some eltU64
  | 43 => some eltCm
  | 58 => some eltB4
  | 62 => some eltSet
  | _ => none
theorem el_ok (X : Ctx) (h : X.tt = tt) (t : TypeId) (E : Elt) (he : el t = some E) : EltOk Try.prog X t E := by
  unfold el at he
  split at he
  · cases he
    exact ⟨⟨_, by rw [h]; rfl⟩, fun i hi x => by rw [h] at hi; cases hi; rfl, cInt_ok, fun i hi H => by rw [h] at hi; cases hi; simp [eltInt, cInt, relL, rel, Value.cells]⟩
  · cases he
    exact ⟨⟨_, by rw [h]; rfl⟩, fun i hi x => by rw [h] at hi; cases hi; rfl, cU64_ok, fun i hi H => by rw [h] at hi; cases hi; simp [eltU64, cU64, relL, rel, Value.cells]⟩
  · cases he
    exact ⟨⟨_, by rw [h]; rfl⟩, fun i hi x => by rw [h] at hi; cases hi; rfl, cCm_ok, fun i hi H => by rw [h] at hi; cases hi; simp [eltCm, cCm, cU64, relL, rel, Value.cells, LFL, LF]; exact ⟨_, _, ⟨rfl, rfl⟩, rfl, _, rfl, none, 0, rfl⟩⟩
  · cases he
    exact ⟨⟨_, by rw [h]; rfl⟩, fun i hi x => by rw [h] at hi; cases hi; rfl, cB4_ok, fun i hi H => by rw [h] at hi; cases hi; simp [eltB4, cB4, relL, rel, Value.cells]⟩
  · cases he
    exact ⟨⟨_, by rw [h]; rfl⟩, fun i hi x => by rw [h] at hi; cases hi; rfl, cSet_ok, fun i hi H => by rw [h] at hi; cases hi; simp [eltSet, cSet, cTrue, relL, rel, Value.cells, LFL, LF, setM]⟩
  · cases he

theorem mixed : Try.prog.follows .mixedOrders = true := by kernel_rfl

/-! ### The digest -/
def mixW (h w : Int) : Int := IntKind.u64.wrap (bitF .xor .u64 h w * 15485907386658061715)
def step0 (h w : Int) : Int := IntKind.u64.wrap (bitF .xor .u64 (mixW h w) ((mixW h w).fdiv (2 ^ (min (32 : Int).toNat IntKind.u64.bits))) * 11562461410679940143)
/-- The step, which nothing looks into but by its equation. -/
theorem step1 : ∃ f : Int → Int → Int, f = step0 := ⟨_, rfl⟩
noncomputable def stepW : Int → Int → Int := Classical.choose step1
theorem stepW_eq : stepW = step0 := Classical.choose_spec step1
noncomputable def foldW (h : Int) (l : List Int) : Int := l.foldl (fun h n => stepW h (IntKind.u64.wrap n)) h
noncomputable def wordsW (l : List Int) : Int := stepW (foldW 512970876019 l) (IntKind.u64.wrap l.length)
/-- What of a commit is digested. -/
def words (c : Cm) : List Int := (c.par.length : Int) :: c.par.map (fun p => IntKind.i64.wrap p) ++ [IntKind.i64.wrap c.tree, c.no]
noncomputable def dgW (c : Cm) : Int := wordsW (words c)
theorem dgW_noId : NoId dgW := fun c i => rfl
end Go.Proofs.Hist
