/-
  The queues' program: its types, and the specifications of its functions as plain functions on numbers and lists.
-/
import Derived.Test.YtgmabbmikjdknaaVcS
import Derived.Test.YtgmabbmikjdknaaProg
set_option linter.unusedVariables false
set_option linter.unusedSimpArgs false
namespace Go.Proofs.Fifo
open Go Go.Vc

noncomputable def PP : Unit → Program := fun _ => Try.prog

theorem flat24 : ({ d := .arr 2 3, size := 2, bytes := 16, zero := .agg #[.int .i64 0, .int .i64 0], flat := true } : TI).flat = true → ({ d := .arr 2 3, size := 2, bytes := 16, zero := .agg #[.int .i64 0, .int .i64 0], flat := true } : TI).agg = true ∧
    ∀ (vs us : List Value) (w : World), vs.length = 2 → us.length = 2 → likeVals vs us = true → likeVals vs [.int .i64 0, .int .i64 0] = true → ∀ op x y, (op = .eql ∨ op = .neq) →
    (do eqGuard op 24 x y (.agg vs.toArray) (.agg us.toArray); binOp op 24 (.agg vs.toArray) (.agg us.toArray) : Sem Value).run Try.prog w = .ok (.bool (if op = .eql then eqVals vs us else !eqVals vs us)) w :=
  fun _ => ⟨rfl, fun vs us w _ _ h1 h2 op x y hop => flat_array2 (e := 3) (z := .int .i64 0) (by kernel_rfl) (by kernel_rfl) (by kernel_rfl) (by kernel_rfl) vs us w h1 h2 op x y hop⟩
theorem flat38 : ({ d := .st [(4, 0, 1), (3, 1, 1)], size := 2, bytes := 16, zero := .agg #[.bool false, .int .i64 0], flat := true } : TI).flat = true → ({ d := .st [(4, 0, 1), (3, 1, 1)], size := 2, bytes := 16, zero := .agg #[.bool false, .int .i64 0], flat := true } : TI).agg = true ∧
    ∀ (vs us : List Value) (w : World), vs.length = 2 → us.length = 2 → likeVals vs us = true → likeVals vs [.bool false, .int .i64 0] = true → ∀ op x y, (op = .eql ∨ op = .neq) →
    (do eqGuard op 38 x y (.agg vs.toArray) (.agg us.toArray); binOp op 38 (.agg vs.toArray) (.agg us.toArray) : Sem Value).run Try.prog w = .ok (.bool (if op = .eql then eqVals vs us else !eqVals vs us)) w :=
  fun _ => ⟨rfl, fun vs us w _ _ h1 h2 op x y hop => flat_struct (zs := [.bool false, .int .i64 0]) (by kernel_rfl) (by kernel_rfl) (by kernel_rfl) (by kernel_rfl) vs us w h1 h2 op x y hop⟩

def tt : TypeId → Option TI
  | 3 => some { d := .int .i64, size := 1, bytes := 8, zero := .int .i64 0 }
  | 4 => some { d := .bool, size := 1, bytes := 1, zero := .bool false }
  | 5 => some { d := .int .u8, size := 1, bytes := 1, zero := .int .u8 0 }
  | 22 => some { d := .sl 5, size := 1, bytes := 24, zero := .slice none 0 0 }
  | 23 => some { d := .sl 3, size := 1, bytes := 24, zero := .slice none 0 0 }
  | 24 => some { d := .arr 2 3, size := 2, bytes := 16, zero := .agg #[.int .i64 0, .int .i64 0], flat := true }
  | 26 => some { d := .st [(3, 0, 1), (23, 1, 1), (3, 2, 1), (3, 3, 1), (24, 4, 2), (24, 6, 2)], size := 8, bytes := 80, zero := .agg #[.int .i64 0, .slice none 0 0, .int .i64 0, .int .i64 0, .int .i64 0, .int .i64 0, .int .i64 0, .int .i64 0] }
  | 29 => some { d := .sl 26, size := 1, bytes := 24, zero := .slice none 0 0 }
  | 30 => some { d := .int .i64, size := 1, bytes := 8, zero := .int .i64 0 }
  | 32 => some { d := .st [(26, 0, 8), (30, 8, 1)], size := 9, bytes := 88, zero := .agg #[.int .i64 0, .slice none 0 0, .int .i64 0, .int .i64 0, .int .i64 0, .int .i64 0, .int .i64 0, .int .i64 0, .int .i64 0] }
  | 38 => some { d := .st [(4, 0, 1), (3, 1, 1)], size := 2, bytes := 16, zero := .agg #[.bool false, .int .i64 0], flat := true }
  | 40 => some { d := .st [(26, 0, 8), (4, 8, 1), (38, 9, 2)], size := 11, bytes := 104, zero := .agg #[.int .i64 0, .slice none 0 0, .int .i64 0, .int .i64 0, .int .i64 0, .int .i64 0, .int .i64 0, .int .i64 0, .bool false, .bool false, .int .i64 0] }
  | 49 => some { d := .arr 4 5, size := 4, bytes := 4, zero := .agg #[.int .u8 0, .int .u8 0, .int .u8 0, .int .u8 0] }
  | 51 => some { d := .arr 2 5, size := 2, bytes := 2, zero := .agg #[.int .u8 0, .int .u8 0] }
  | 56 => some { d := .int .i64, size := 1, bytes := 8, zero := .int .i64 0 }
  | 58 => some { d := .arr 6 3, size := 6, bytes := 48, zero := .agg #[.int .i64 0, .int .i64 0, .int .i64 0, .int .i64 0, .int .i64 0, .int .i64 0] }
  | 69 => some { d := .ptr 24, size := 1, bytes := 8, zero := .pointer none }
  | _ => none
theorem tt3 : TIok Try.prog 3 { d := .int .i64, size := 1, bytes := 8, zero := .int .i64 0 } := tiok_of (by kernel_rfl) (by kernel_rfl) (fun h => nomatch h)
theorem tt4 : TIok Try.prog 4 { d := .bool, size := 1, bytes := 1, zero := .bool false } := tiok_of (by kernel_rfl) (by kernel_rfl) (fun h => nomatch h)
theorem tt5 : TIok Try.prog 5 { d := .int .u8, size := 1, bytes := 1, zero := .int .u8 0 } := tiok_of (by kernel_rfl) (by kernel_rfl) (fun h => nomatch h)
theorem tt22 : TIok Try.prog 22 { d := .sl 5, size := 1, bytes := 24, zero := .slice none 0 0 } := tiok_of (by kernel_rfl) (by kernel_rfl) (fun h => nomatch h)
theorem tt23 : TIok Try.prog 23 { d := .sl 3, size := 1, bytes := 24, zero := .slice none 0 0 } := tiok_of (by kernel_rfl) (by kernel_rfl) (fun h => nomatch h)
theorem tt24 : TIok Try.prog 24 { d := .arr 2 3, size := 2, bytes := 16, zero := .agg #[.int .i64 0, .int .i64 0], flat := true } := tiok_of (by kernel_rfl) (by kernel_rfl) (flat24)
theorem tt26 : TIok Try.prog 26 { d := .st [(3, 0, 1), (23, 1, 1), (3, 2, 1), (3, 3, 1), (24, 4, 2), (24, 6, 2)], size := 8, bytes := 80, zero := .agg #[.int .i64 0, .slice none 0 0, .int .i64 0, .int .i64 0, .int .i64 0, .int .i64 0, .int .i64 0, .int .i64 0] } := tiok_of (by kernel_rfl) (by kernel_rfl) (fun h => nomatch h)
theorem tt29 : TIok Try.prog 29 { d := .sl 26, size := 1, bytes := 24, zero := .slice none 0 0 } := tiok_of (by kernel_rfl) (by kernel_rfl) (fun h => nomatch h)
theorem tt30 : TIok Try.prog 30 { d := .int .i64, size := 1, bytes := 8, zero := .int .i64 0 } := tiok_of (by kernel_rfl) (by kernel_rfl) (fun h => nomatch h)
theorem tt32 : TIok Try.prog 32 { d := .st [(26, 0, 8), (30, 8, 1)], size := 9, bytes := 88, zero := .agg #[.int .i64 0, .slice none 0 0, .int .i64 0, .int .i64 0, .int .i64 0, .int .i64 0, .int .i64 0, .int .i64 0, .int .i64 0] } := tiok_of (by kernel_rfl) (by kernel_rfl) (fun h => nomatch h)
theorem tt38 : TIok Try.prog 38 { d := .st [(4, 0, 1), (3, 1, 1)], size := 2, bytes := 16, zero := .agg #[.bool false, .int .i64 0], flat := true } := tiok_of (by kernel_rfl) (by kernel_rfl) (flat38)
theorem tt40 : TIok Try.prog 40 { d := .st [(26, 0, 8), (4, 8, 1), (38, 9, 2)], size := 11, bytes := 104, zero := .agg #[.int .i64 0, .slice none 0 0, .int .i64 0, .int .i64 0, .int .i64 0, .int .i64 0, .int .i64 0, .int .i64 0, .bool false, .bool false, .int .i64 0] } := tiok_of (by kernel_rfl) (by kernel_rfl) (fun h => nomatch h)
theorem tt49 : TIok Try.prog 49 { d := .arr 4 5, size := 4, bytes := 4, zero := .agg #[.int .u8 0, .int .u8 0, .int .u8 0, .int .u8 0] } := tiok_of (by kernel_rfl) (by kernel_rfl) (fun h => nomatch h)
theorem tt51 : TIok Try.prog 51 { d := .arr 2 5, size := 2, bytes := 2, zero := .agg #[.int .u8 0, .int .u8 0] } := tiok_of (by kernel_rfl) (by kernel_rfl) (fun h => nomatch h)
theorem tt56 : TIok Try.prog 56 { d := .int .i64, size := 1, bytes := 8, zero := .int .i64 0 } := tiok_of (by kernel_rfl) (by kernel_rfl) (fun h => nomatch h)
theorem tt58 : TIok Try.prog 58 { d := .arr 6 3, size := 6, bytes := 48, zero := .agg #[.int .i64 0, .int .i64 0, .int .i64 0, .int .i64 0, .int .i64 0, .int .i64 0] } := tiok_of (by kernel_rfl) (by kernel_rfl) (fun h => nomatch h)
theorem tt69 : TIok Try.prog 69 { d := .ptr 24, size := 1, bytes := 8, zero := .pointer none } := tiok_of (by kernel_rfl) (by kernel_rfl) (fun h => nomatch h)
theorem tt_ok : ∀ t i, tt t = some i → TIok Try.prog t i := by
  intro t i h
  unfold tt at h
  split at h
  · cases h; exact tt3
  · cases h; exact tt4
  · cases h; exact tt5
  · cases h; exact tt22
  · cases h; exact tt23
  · cases h; exact tt24
  · cases h; exact tt26
  · cases h; exact tt29
  · cases h; exact tt30
  · cases h; exact tt32
  · cases h; exact tt38
  · cases h; exact tt40
  · cases h; exact tt49
  · cases h; exact tt51
  · cases h; exact tt56
  · cases h; exact tt58
  · cases h; exact tt69
  · cases h

def cInt (n : Int) : List SV := [.i .i64 fun _ => n]
def eltInt : Elt := ⟨Int, cInt, 0⟩
theorem cInt_ok (x : Int) : LFL (cInt x) ∧ (cInt x).all SV.one = true := ⟨⟨trivial, trivial⟩, rfl⟩
def el : TypeId → Option Elt
  | 3 => some eltInt
  | _ => none

theorem mixed : Try.prog.follows .mixedOrders = true := by kernel_rfl
end Go.Proofs.Fifo
