/-
  The transport's program: its types, and its values as plain numbers and lists.
-/
import Derived.Test.YtcejljfammcflaaVcS
import Derived.Test.YtcejljfammcflaaProg
set_option linter.unusedVariables false
set_option linter.unusedSimpArgs false
namespace Go.Proofs.Tran
open Go Go.Vc

noncomputable def PP : Unit → Program := fun _ => Try.prog

def tt : TypeId → Option TI
  | 3 => some { d := .int .i64, size := 1, bytes := 8, zero := .int .i64 0 }
  | 4 => some { d := .bool, size := 1, bytes := 1, zero := .bool false }
  | 5 => some { d := .int .u8, size := 1, bytes := 1, zero := .int .u8 0 }
  | 22 => some { d := .int .u64, size := 1, bytes := 8, zero := .int .u64 0 }
  | 23 => some { d := .sl 5, size := 1, bytes := 24, zero := .slice none 0 0 }
  | 24 => some { d := .sl 23, size := 1, bytes := 24, zero := .slice none 0 0 }
  | 26 => some { d := .st [(22, 0, 1), (24, 1, 1), (3, 2, 1), (24, 3, 1), (3, 4, 1)], size := 5, bytes := 72, zero := .agg #[.int .u64 0, .slice none 0 0, .int .i64 0, .slice none 0 0, .int .i64 0] }
  | 28 => some { d := .st [(3, 0, 1), (3, 1, 1), (23, 2, 1), (22, 3, 1)], size := 4, bytes := 48, zero := .agg #[.int .i64 0, .int .i64 0, .slice none 0 0, .int .u64 0] }
  | 30 => some { d := .st [(26, 0, 5), (28, 5, 4), (23, 9, 1), (3, 10, 1)], size := 11, bytes := 152, zero := .agg #[.int .u64 0, .slice none 0 0, .int .i64 0, .slice none 0 0, .int .i64 0, .int .i64 0, .int .i64 0, .slice none 0 0, .int .u64 0, .slice none 0 0, .int .i64 0] }
  | 39 => some { d := .int .i64, size := 1, bytes := 8, zero := .int .i64 0 }
  | 41 => some { d := .st [(23, 0, 1), (26, 1, 5), (39, 6, 1)], size := 7, bytes := 104, zero := .agg #[.slice none 0 0, .int .u64 0, .slice none 0 0, .int .i64 0, .slice none 0 0, .int .i64 0, .int .i64 0] }
  | 44 => some { d := .st [(28, 0, 4), (39, 4, 1)], size := 5, bytes := 56, zero := .agg #[.int .i64 0, .int .i64 0, .slice none 0 0, .int .u64 0, .int .i64 0] }
  | 48 => some { d := .st [(26, 0, 5), (39, 5, 1)], size := 6, bytes := 80, zero := .agg #[.int .u64 0, .slice none 0 0, .int .i64 0, .slice none 0 0, .int .i64 0, .int .i64 0] }
  | 55 => some { d := .sl 64, size := 1, bytes := 24, zero := .slice none 0 0 }
  | 56 => some { d := .arr 2 26, size := 10, bytes := 144, zero := .agg #[.int .u64 0, .slice none 0 0, .int .i64 0, .slice none 0 0, .int .i64 0, .int .u64 0, .slice none 0 0, .int .i64 0, .slice none 0 0, .int .i64 0] }
  | 57 => some { d := .sl 73, size := 1, bytes := 24, zero := .slice none 0 0 }
  | 58 => some { d := .arr 2 24, size := 2, bytes := 48, zero := .agg #[.slice none 0 0, .slice none 0 0] }
  | 60 => some { d := .st [(56, 0, 10), (57, 10, 1), (58, 11, 2), (58, 13, 2)], size := 15, bytes := 264, zero := .agg #[.int .u64 0, .slice none 0 0, .int .i64 0, .slice none 0 0, .int .i64 0, .int .u64 0, .slice none 0 0, .int .i64 0, .slice none 0 0, .int .i64 0, .slice none 0 0, .slice none 0 0, .slice none 0 0, .slice none 0 0, .slice none 0 0] }
  | 64 => some { d := .st [(5, 0, 1), (5, 1, 1), (23, 2, 1)], size := 3, bytes := 32, zero := .agg #[.int .u8 0, .int .u8 0, .slice none 0 0] }
  | 69 => some { d := .arr 3 3, size := 3, bytes := 24, zero := .agg #[.int .i64 0, .int .i64 0, .int .i64 0] }
  | 73 => some { d := .st [(3, 0, 1), (28, 1, 4)], size := 5, bytes := 56, zero := .agg #[.int .i64 0, .int .i64 0, .int .i64 0, .slice none 0 0, .int .u64 0] }
  | 75 => some { d := .arr 4 5, size := 4, bytes := 4, zero := .agg #[.int .u8 0, .int .u8 0, .int .u8 0, .int .u8 0] }
  | 78 => some { d := .sl 3, size := 1, bytes := 24, zero := .slice none 0 0 }
  | 102 => some { d := .int .u64, size := 1, bytes := 8, zero := .int .u64 0 }
  | 105 => some { d := .sl 22, size := 1, bytes := 24, zero := .slice none 0 0 }
  | _ => none
theorem tt3 : TIok Try.prog 3 { d := .int .i64, size := 1, bytes := 8, zero := .int .i64 0 } := tiok_of (by kernel_rfl) (by kernel_rfl) (fun h => nomatch h)
theorem tt4 : TIok Try.prog 4 { d := .bool, size := 1, bytes := 1, zero := .bool false } := tiok_of (by kernel_rfl) (by kernel_rfl) (fun h => nomatch h)
theorem tt5 : TIok Try.prog 5 { d := .int .u8, size := 1, bytes := 1, zero := .int .u8 0 } := tiok_of (by kernel_rfl) (by kernel_rfl) (fun h => nomatch h)
theorem tt22 : TIok Try.prog 22 { d := .int .u64, size := 1, bytes := 8, zero := .int .u64 0 } := tiok_of (by kernel_rfl) (by kernel_rfl) (fun h => nomatch h)
theorem tt23 : TIok Try.prog 23 { d := .sl 5, size := 1, bytes := 24, zero := .slice none 0 0 } := tiok_of (by kernel_rfl) (by kernel_rfl) (fun h => nomatch h)
theorem tt24 : TIok Try.prog 24 { d := .sl 23, size := 1, bytes := 24, zero := .slice none 0 0 } := tiok_of (by kernel_rfl) (by kernel_rfl) (fun h => nomatch h)
theorem tt26 : TIok Try.prog 26 { d := .st [(22, 0, 1), (24, 1, 1), (3, 2, 1), (24, 3, 1), (3, 4, 1)], size := 5, bytes := 72, zero := .agg #[.int .u64 0, .slice none 0 0, .int .i64 0, .slice none 0 0, .int .i64 0] } := tiok_of (by kernel_rfl) (by kernel_rfl) (fun h => nomatch h)
theorem tt28 : TIok Try.prog 28 { d := .st [(3, 0, 1), (3, 1, 1), (23, 2, 1), (22, 3, 1)], size := 4, bytes := 48, zero := .agg #[.int .i64 0, .int .i64 0, .slice none 0 0, .int .u64 0] } := tiok_of (by kernel_rfl) (by kernel_rfl) (fun h => nomatch h)
theorem tt30 : TIok Try.prog 30 { d := .st [(26, 0, 5), (28, 5, 4), (23, 9, 1), (3, 10, 1)], size := 11, bytes := 152, zero := .agg #[.int .u64 0, .slice none 0 0, .int .i64 0, .slice none 0 0, .int .i64 0, .int .i64 0, .int .i64 0, .slice none 0 0, .int .u64 0, .slice none 0 0, .int .i64 0] } := tiok_of (by kernel_rfl) (by kernel_rfl) (fun h => nomatch h)
theorem tt39 : TIok Try.prog 39 { d := .int .i64, size := 1, bytes := 8, zero := .int .i64 0 } := tiok_of (by kernel_rfl) (by kernel_rfl) (fun h => nomatch h)
theorem tt41 : TIok Try.prog 41 { d := .st [(23, 0, 1), (26, 1, 5), (39, 6, 1)], size := 7, bytes := 104, zero := .agg #[.slice none 0 0, .int .u64 0, .slice none 0 0, .int .i64 0, .slice none 0 0, .int .i64 0, .int .i64 0] } := tiok_of (by kernel_rfl) (by kernel_rfl) (fun h => nomatch h)
theorem tt44 : TIok Try.prog 44 { d := .st [(28, 0, 4), (39, 4, 1)], size := 5, bytes := 56, zero := .agg #[.int .i64 0, .int .i64 0, .slice none 0 0, .int .u64 0, .int .i64 0] } := tiok_of (by kernel_rfl) (by kernel_rfl) (fun h => nomatch h)
theorem tt48 : TIok Try.prog 48 { d := .st [(26, 0, 5), (39, 5, 1)], size := 6, bytes := 80, zero := .agg #[.int .u64 0, .slice none 0 0, .int .i64 0, .slice none 0 0, .int .i64 0, .int .i64 0] } := tiok_of (by kernel_rfl) (by kernel_rfl) (fun h => nomatch h)
theorem tt55 : TIok Try.prog 55 { d := .sl 64, size := 1, bytes := 24, zero := .slice none 0 0 } := tiok_of (by kernel_rfl) (by kernel_rfl) (fun h => nomatch h)
theorem tt56 : TIok Try.prog 56 { d := .arr 2 26, size := 10, bytes := 144, zero := .agg #[.int .u64 0, .slice none 0 0, .int .i64 0, .slice none 0 0, .int .i64 0, .int .u64 0, .slice none 0 0, .int .i64 0, .slice none 0 0, .int .i64 0] } := tiok_of (by kernel_rfl) (by kernel_rfl) (fun h => nomatch h)
theorem tt57 : TIok Try.prog 57 { d := .sl 73, size := 1, bytes := 24, zero := .slice none 0 0 } := tiok_of (by kernel_rfl) (by kernel_rfl) (fun h => nomatch h)
theorem tt58 : TIok Try.prog 58 { d := .arr 2 24, size := 2, bytes := 48, zero := .agg #[.slice none 0 0, .slice none 0 0] } := tiok_of (by kernel_rfl) (by kernel_rfl) (fun h => nomatch h)
theorem tt60 : TIok Try.prog 60 { d := .st [(56, 0, 10), (57, 10, 1), (58, 11, 2), (58, 13, 2)], size := 15, bytes := 264, zero := .agg #[.int .u64 0, .slice none 0 0, .int .i64 0, .slice none 0 0, .int .i64 0, .int .u64 0, .slice none 0 0, .int .i64 0, .slice none 0 0, .int .i64 0, .slice none 0 0, .slice none 0 0, .slice none 0 0, .slice none 0 0, .slice none 0 0] } := tiok_of (by kernel_rfl) (by kernel_rfl) (fun h => nomatch h)
theorem tt64 : TIok Try.prog 64 { d := .st [(5, 0, 1), (5, 1, 1), (23, 2, 1)], size := 3, bytes := 32, zero := .agg #[.int .u8 0, .int .u8 0, .slice none 0 0] } := tiok_of (by kernel_rfl) (by kernel_rfl) (fun h => nomatch h)
theorem tt69 : TIok Try.prog 69 { d := .arr 3 3, size := 3, bytes := 24, zero := .agg #[.int .i64 0, .int .i64 0, .int .i64 0] } := tiok_of (by kernel_rfl) (by kernel_rfl) (fun h => nomatch h)
theorem tt73 : TIok Try.prog 73 { d := .st [(3, 0, 1), (28, 1, 4)], size := 5, bytes := 56, zero := .agg #[.int .i64 0, .int .i64 0, .int .i64 0, .slice none 0 0, .int .u64 0] } := tiok_of (by kernel_rfl) (by kernel_rfl) (fun h => nomatch h)
theorem tt75 : TIok Try.prog 75 { d := .arr 4 5, size := 4, bytes := 4, zero := .agg #[.int .u8 0, .int .u8 0, .int .u8 0, .int .u8 0] } := tiok_of (by kernel_rfl) (by kernel_rfl) (fun h => nomatch h)
theorem tt78 : TIok Try.prog 78 { d := .sl 3, size := 1, bytes := 24, zero := .slice none 0 0 } := tiok_of (by kernel_rfl) (by kernel_rfl) (fun h => nomatch h)
theorem tt102 : TIok Try.prog 102 { d := .int .u64, size := 1, bytes := 8, zero := .int .u64 0 } := tiok_of (by kernel_rfl) (by kernel_rfl) (fun h => nomatch h)
theorem tt105 : TIok Try.prog 105 { d := .sl 22, size := 1, bytes := 24, zero := .slice none 0 0 } := tiok_of (by kernel_rfl) (by kernel_rfl) (fun h => nomatch h)
theorem tt_ok : ∀ t i, tt t = some i → TIok Try.prog t i := by
  intro t i h
  unfold tt at h
  split at h
  · cases h; exact tt3
  · cases h; exact tt4
  · cases h; exact tt5
  · cases h; exact tt22
  · cases h; exact tt23
  · cases h; exact tt24
  · cases h; exact tt26
  · cases h; exact tt28
  · cases h; exact tt30
  · cases h; exact tt39
  · cases h; exact tt41
  · cases h; exact tt44
  · cases h; exact tt48
  · cases h; exact tt55
  · cases h; exact tt56
  · cases h; exact tt57
  · cases h; exact tt58
  · cases h; exact tt60
  · cases h; exact tt64
  · cases h; exact tt69
  · cases h; exact tt73
  · cases h; exact tt75
  · cases h; exact tt78
  · cases h; exact tt102
  · cases h; exact tt105
  · cases h

def cInt (n : Int) : List SV := [.i .i64 fun _ => n]
def cU8 (n : Int) : List SV := [.i .u8 fun _ => n]
def cU64 (n : Int) : List SV := [.i .u64 fun _ => n]
def cB (b : List Int) : List SV := [.sl 1 cU8 fun _ => b]
/-- A link. -/
structure Lk where
  key : Int
  out : List (List Int)
  base : Int
  ins : List (List Int)
  got : Int
def Lk.cells (l : Unit → Lk) : List SV := [.i .u64 (fun _ => (l ()).key), .sl 1 cB (fun _ => (l ()).out), .i .i64 (fun _ => (l ()).base), .sl 1 cB (fun _ => (l ()).ins), .i .i64 (fun _ => (l ()).got)]
/-- A packet. -/
structure Pk where
  seq : Int
  ack : Int
  data : List Int
  check : Int
def Pk.cells (p : Unit → Pk) : List SV := [.i .i64 (fun _ => (p ()).seq), .i .i64 (fun _ => (p ()).ack), .sl 1 cU8 (fun _ => (p ()).data), .i .u64 (fun _ => (p ()).check)]
/-- A packet on its way. -/
structure Fl where
  to : Int
  p : Pk
def cFl (f : Fl) : List SV := .i .i64 (fun _ => f.to) :: Pk.cells (fun _ => f.p)
/-- A step of a script. -/
structure Ac where
  kind : Int
  n : Int
  d : List Int
def cAc (a : Ac) : List SV := [.i .u8 (fun _ => a.kind), .i .u8 (fun _ => a.n), .sl 1 cU8 (fun _ => a.d)]

/-- A step of a script, as an argument's element. -/
abbrev AT := Int × Int × List Int × Unit
def AT.ac (t : AT) : Ac := ⟨t.1, t.2.1, t.2.2.1⟩
def cAT (t : AT) : List SV := [.i .u8 (fun _ => t.1), .i .u8 (fun _ => t.2.1), .sl 1 cU8 (fun _ => t.2.2.1)]

def eltInt : Elt := ⟨Int, cInt, 0⟩
def eltU8 : Elt := ⟨Int, cU8, 0⟩
def eltU64 : Elt := ⟨Int, cU64, 0⟩
def eltB : Elt := ⟨List Int, cB, []⟩
def eltFl : Elt := ⟨Fl, cFl, ⟨0, ⟨0, 0, [], 0⟩⟩⟩
def eltAT : Elt := ⟨AT, cAT, ⟨0, 0, [], ()⟩⟩
theorem cInt_ok (x : Int) : LFL (cInt x) ∧ (cInt x).all SV.one = true := ⟨⟨trivial, trivial⟩, rfl⟩
theorem cU8_ok (x : Int) : LFL (cU8 x) ∧ (cU8 x).all SV.one = true := ⟨⟨trivial, trivial⟩, rfl⟩
theorem cU64_ok (x : Int) : LFL (cU64 x) ∧ (cU64 x).all SV.one = true := ⟨⟨trivial, trivial⟩, rfl⟩
theorem cB_ok (x : List Int) : LFL (cB x) ∧ (cB x).all SV.one = true := ⟨⟨fun y => (cU8_ok y).1, trivial⟩, rfl⟩
theorem cFl_ok (x : Fl) : LFL (cFl x) ∧ (cFl x).all SV.one = true := ⟨⟨trivial, trivial, trivial, fun y => (cU8_ok y).1, trivial, trivial⟩, rfl⟩
theorem cAT_ok (x : AT) : LFL (cAT x) ∧ (cAT x).all SV.one = true := ⟨⟨trivial, trivial, fun y => (cU8_ok y).1, trivial⟩, rfl⟩
def el : TypeId → Option Elt
  | 3 => some eltInt
  | 5 => some eltU8
  | 22 => some eltU64
  | 23 => some eltB
  | 64 => some eltAT
  | 73 => some eltFl
  | _ => none
theorem el_ok (X : Ctx) (h : X.tt = tt) (t : TypeId) (E : Elt) (he : el t = some E) : EltOk Try.prog X t E := by
  unfold el at he
  split at he
  · cases he
    exact ⟨⟨_, by rw [h]; rfl⟩, fun i hi x => by rw [h] at hi; cases hi; rfl, cInt_ok, fun i hi H => by rw [h] at hi; cases hi; simp [eltInt, cInt, relL, rel, Value.cells]⟩
  · cases he
    exact ⟨⟨_, by rw [h]; rfl⟩, fun i hi x => by rw [h] at hi; cases hi; rfl, cU8_ok, fun i hi H => by rw [h] at hi; cases hi; simp [eltU8, cU8, relL, rel, Value.cells]⟩
  · cases he
    exact ⟨⟨_, by rw [h]; rfl⟩, fun i hi x => by rw [h] at hi; cases hi; rfl, cU64_ok, fun i hi H => by rw [h] at hi; cases hi; simp [eltU64, cU64, relL, rel, Value.cells]⟩
  · cases he
    exact ⟨⟨_, by rw [h]; rfl⟩, fun i hi x => by rw [h] at hi; cases hi; rfl, cB_ok, fun i hi H => by rw [h] at hi; cases hi; simp [eltB, cB, cU8, relL, rel, Value.cells, LFL, LF]⟩
  · cases he
    exact ⟨⟨_, by rw [h]; rfl⟩, fun i hi x => by rw [h] at hi; cases hi; rfl, cAT_ok, fun i hi H => by rw [h] at hi; cases hi; simp [eltAT, cAT, cU8, relL, rel, Value.cells, LFL, LF]; exact ⟨_, _, ⟨rfl, rfl⟩, rfl, _, _, rfl, rfl, _, rfl, none, 0, rfl⟩⟩
  · cases he
    exact ⟨⟨_, by rw [h]; rfl⟩, fun i hi x => by rw [h] at hi; cases hi; rfl, cFl_ok, fun i hi H => by rw [h] at hi; cases hi; simp [eltFl, cFl, Pk.cells, cU8, relL, rel, Value.cells, LFL, LF]; exact ⟨_, _, ⟨rfl, rfl⟩, rfl, _, _, rfl, rfl, _, _, rfl, rfl, _, rfl, none, 0, rfl⟩⟩
  · cases he

theorem mixed : Try.prog.follows .mixedOrders = true := by kernel_rfl

/-! ### The digest -/
def mixW (h w : Int) : Int := IntKind.u64.wrap (bitF .xor .u64 h w * 15485907386658061715)
def step0 (h w : Int) : Int := IntKind.u64.wrap (bitF .xor .u64 (mixW h w) ((mixW h w).fdiv (2 ^ (min (32 : Int).toNat IntKind.u64.bits))) * 11562461410679940143)
/-- The step, which nothing looks into but by its equation. -/
theorem step1 : ∃ f : Int → Int → Int, f = step0 := ⟨_, rfl⟩
noncomputable def stepW : Int → Int → Int := Classical.choose step1
theorem stepW_eq : stepW = step0 := Classical.choose_spec step1
theorem oth1 : ∃ f : Int → Int, f = fun k => bitF .xor .u64 k 1 := ⟨_, rfl⟩
/-- The other end's key. -/
noncomputable def oth : Int → Int := Classical.choose oth1
theorem oth_eq (k : Int) : bitF .xor .u64 k 1 = oth k := by rw [oth, Classical.choose_spec oth1]
noncomputable def foldW (h : Int) (l : List Int) : Int := l.foldl (fun h n => stepW h (IntKind.u64.wrap n)) h
noncomputable def wordsW (l : List Int) : Int := stepW (foldW 512970876019 l) (IntKind.u64.wrap l.length)
noncomputable def tagW (key : Int) (l : List Int) : Int := stepW key (wordsW l)
end Go.Proofs.Tran
