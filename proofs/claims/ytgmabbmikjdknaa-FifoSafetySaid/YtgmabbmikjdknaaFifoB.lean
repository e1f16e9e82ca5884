/-
  The queues' functions, each by its specification.
-/
import Derived.Test.YtgmabbmikjdknaaFifoA
set_option linter.unusedVariables false
set_option linter.unusedSimpArgs false
set_option maxRecDepth 10000
set_option maxHeartbeats 1000000
namespace Go.Proofs.Fifo
open Go Go.Vc

/-- (a - b) modulo 2c. -/
def mn (c a b : Int) : Int := (a - b) % (2 * c)

theorem tmod_small (x m : Int) (h1 : -m < x) (h2 : x < m) : x.tmod m = x := by
  rcases Int.le_total 0 x with h | h
  · rw [Int.tmod_eq_emod_of_nonneg h, Int.emod_eq_of_lt h h2]
  · have : x = -(-x) := by omega
    rw [this, Int.neg_tmod, Int.tmod_eq_emod_of_nonneg (by omega), Int.emod_eq_of_lt (by omega) (by omega)]
theorem mn_eq (c a b : Int) (h1 : 1 ≤ c) (h3 : 0 ≤ a) (h4 : a < 2 * c) (h5 : 0 ≤ b) (h6 : b < 2 * c) : (a - b + 2 * c).tmod (2 * c) = mn c a b := by
  rw [Int.tmod_eq_emod_of_nonneg (by omega), Int.add_emod_right]
  rfl
theorem mn_range (c a b : Int) (h1 : 1 ≤ c) : 0 ≤ mn c a b ∧ mn c a b < 2 * c := ⟨Int.emod_nonneg _ (by omega), Int.emod_lt_of_pos _ (by omega)⟩

/-- A queue. -/
structure Q where
  cap : Int
  words : List Int
  wr : Int
  rd : Int
  w0 : Int
  w1 : Int
  r0 : Int
  r1 : Int
def Q.cells (q : Unit → Q) : List SV := [.i .i64 (fun _ => (q ()).cap), .sl 1 cInt (fun _ => (q ()).words), .i .i64 (fun _ => (q ()).wr), .i .i64 (fun _ => (q ()).rd), .i .i64 (fun _ => (q ()).w0), .i .i64 (fun _ => (q ()).w1), .i .i64 (fun _ => (q ()).r0), .i .i64 (fun _ => (q ()).r1)]
theorem Q.cells_lf (q : Unit → Q) : LFL (Q.cells q) := by simp [Q.cells, LFL, LF, cInt]

/-- The pointers are in range. -/
structure Q.Ptr (q : Q) : Prop where
  c1 : 1 ≤ q.cap
  c8 : q.cap ≤ 8
  wr0 : 0 ≤ q.wr
  wr2 : q.wr < 2 * q.cap
  rd0 : 0 ≤ q.rd
  rd2 : q.rd < 2 * q.cap
  w00 : 0 ≤ q.w0
  w02 : q.w0 < 2 * q.cap
  w10 : 0 ≤ q.w1
  w12 : q.w1 < 2 * q.cap
  r00 : 0 ≤ q.r0
  r02 : q.r0 < 2 * q.cap
  r10 : 0 ≤ q.r1
  r12 : q.r1 < 2 * q.cap
structure Q.Inv (q : Q) : Prop where
  p : q.Ptr
  len : (q.words.length : Int) = q.cap
  behind : mn q.cap q.wr q.rd + mn q.cap q.rd q.r0 + mn q.cap q.r0 q.r1 ≤ q.cap
  unseen : mn q.cap q.wr q.w0 + mn q.cap q.w0 q.w1 ≤ mn q.cap q.wr q.rd

structure A3 where
  c : Int
  a : Int
  b : Int
def minusS : Vc.Spec where
  α := A3
  args x := [.i .i64 (fun _ => x.c), .i .i64 (fun _ => x.a), .i .i64 (fun _ => x.b)]
  pre x := 1 ≤ x.c ∧ x.c ≤ 8 ∧ 0 ≤ x.a ∧ x.a < 2 * x.c ∧ 0 ≤ x.b ∧ x.b < 2 * x.c
  res x := .i .i64 (fun _ => mn x.c x.a x.b)

def ctx0 : Ctx := { tt := tt, el := el, sp := fun _ => none, inl := fun _ => none }
theorem el_ok (X : Ctx) (h : X.tt = tt) (t : TypeId) (E : Elt) (he : el t = some E) : EltOk Try.prog X t E := by
  unfold el at he
  split at he
  · cases he
    exact ⟨⟨_, by rw [h]; rfl⟩, fun i hi x => by rw [h] at hi; cases hi; rfl, cInt_ok, fun i hi H => by rw [h] at hi; cases hi; simp [eltInt, cInt, relL, rel, Value.cells]⟩
  · cases he
theorem ctx0_ok : ctx0.Ok (PP ()) := ⟨tt_ok, el_ok ctx0 rfl, fun f S h => (by cases h), fun f fn h => (by cases h), mixed⟩
theorem ctx0_inl : InlOk ctx0 := fun f fn h => (by cases h)

theorem minus_ok : SpecOk (PP ()) 30 minusS := by
  refine spec_of_vc (lv := 1) ctx0_ok ctx0_inl (fnOk_of Try.func30 (by kernel_rfl)) (by kernel_rfl) (fun a => by simp [minusS, LFL, LF]) (fun a => trivial) ?_
  rintro ⟨c, a, b⟩ ⟨h1, h2, h3, h4, h5, h6⟩
  simp only at h1 h2 h3 h4 h5 h6
  refine ⟨?_⟩
  cbv
  simp (disch := omega) only [w64, tmod_small]
  refine ⟨⟨by omega⟩, ⟨by omega⟩, ⟨.i (mn_eq c a b h1 h3 h4 h5 h6)⟩⟩

structure QA where
  q : Q
  a : Int
  b : Int
def MinusS : Vc.Spec where
  α := QA
  args x := [.agg (Q.cells fun _ => x.q), .i .i64 (fun _ => x.a), .i .i64 (fun _ => x.b)]
  pre x := 1 ≤ x.q.cap ∧ x.q.cap ≤ 8 ∧ 0 ≤ x.a ∧ x.a < 2 * x.q.cap ∧ 0 ≤ x.b ∧ x.b < 2 * x.q.cap
  res x := .i .i64 (fun _ => mn x.q.cap x.a x.b)
theorem Minus_ok : SpecOk (PP ()) 33 MinusS := by
  refine spec_of_vc (lv := 1) ctx0_ok ctx0_inl (fnOk_of Try.func33 (by kernel_rfl)) (by kernel_rfl) (fun a => by simp [MinusS, LFL, LF, Q.cells, cInt]) (fun a => trivial) ?_
  rintro ⟨⟨cap, words, wr, rd, w0, w1, r0, r1⟩, a, b⟩ ⟨h1, h2, h3, h4, h5, h6⟩
  simp only at h1 h2 h3 h4 h5 h6
  refine ⟨?_⟩
  cbv
  simp (disch := omega) only [w64]
  refine ⟨⟨by omega⟩, ⟨.i (mn_eq cap a b h1 h3 h4 h5 h6)⟩⟩

def sp1 : List (Nat × Vc.Spec) := [(30, minusS), (33, MinusS)]
noncomputable def inl1 : List (Nat × Func) := [(29, Try.f29), (36, Try.f36), (37, Try.f37), (38, Try.f38)]
theorem inl1_ok : All (fun f fn => FnOk (PP ()) f fn ∧ fnCodeOk fn = true) inl1 :=
  ⟨⟨fnOk_of Try.func29 (by kernel_rfl), by kernel_rfl⟩, ⟨fnOk_of Try.func36 (by kernel_rfl), by kernel_rfl⟩, ⟨fnOk_of Try.func37 (by kernel_rfl), by kernel_rfl⟩, ⟨fnOk_of Try.func38 (by kernel_rfl), by kernel_rfl⟩, trivial⟩
theorem sp1_ok : All (fun f S => SpecOk (PP ()) f S) sp1 := ⟨minus_ok, Minus_ok, trivial⟩
noncomputable def ctx1 : Ctx := { tt := tt, el := el, sp := fun f => tab sp1 f, inl := fun f => tab inl1 f }
theorem ctx1_ok : ctx1.Ok (PP ()) := ⟨tt_ok, el_ok ctx1 rfl, tab_all sp1_ok, fun f fn h => (tab_all inl1_ok f fn h).1, mixed⟩
theorem ctx1_inl : InlOk ctx1 := fun f fn h => (tab_all inl1_ok f fn h).2

def qS (pre : Q → Prop) (r : Q → SV) : Vc.Spec where
  α := Q
  args q := [.agg (Q.cells fun _ => q)]
  pre := pre
  res := r
theorem qS_lf (pre : Q → Prop) (r : Q → SV) (q : Q) : LFL ((qS pre r).args q) := ⟨Q.cells_lf _, trivial⟩

def lengthS : Vc.Spec := qS Q.Ptr fun q => .i .i64 fun _ => mn q.cap q.wr q.rd
theorem length_ok : SpecOk (PP ()) 31 lengthS := by
  refine spec_of_vc (lv := 2) ctx1_ok ctx1_inl (fnOk_of Try.func31 (by kernel_rfl)) (by kernel_rfl) (qS_lf _ _) (fun a => trivial) ?_
  rintro ⟨cap, words, wr, rd, w0, w1, r0, r1⟩ hp
  obtain ⟨c1, c8, wr0, wr2, rd0, rd2, w00, w02, w10, w12, r00, r02, r10, r12⟩ := hp
  simp only at c1 c8 wr0 wr2 rd0 rd2
  refine ⟨?_⟩
  cbv
  simp (disch := omega) only [w64]
  refine ⟨⟨cap, wr, rd⟩, ⟨by ((repeat' first | exact LeL.nil | exact Le.refl _ | refine LeL.cons ?_ ?_ | exact Le.ic rfl | exact Le.bc rfl | exact Le.i rfl | exact Le.b rfl | exact Le.sl rfl | refine Le.agg ?_ | refine Le.tup ?_ | exact Le.any _)), by simp only [minusS]; omega⟩, ?_⟩
  cbv
  exact ⟨.i rfl⟩

theorem Len_ok : SpecOk (PP ()) 32 lengthS := by
  refine spec_of_vc (lv := 2) ctx1_ok ctx1_inl (fnOk_of Try.func32 (by kernel_rfl)) (by kernel_rfl) (qS_lf _ _) (fun a => trivial) ?_
  rintro ⟨cap, words, wr, rd, w0, w1, r0, r1⟩ hp
  obtain ⟨c1, c8, wr0, wr2, rd0, rd2, w00, w02, w10, w12, r00, r02, r10, r12⟩ := hp
  simp only at c1 c8 wr0 wr2 rd0 rd2
  refine ⟨?_⟩
  cbv
  refine ⟨⟨⟨cap, words, wr, rd, w0, w1, r0, r1⟩, wr, rd⟩, ⟨by ((repeat' first | exact LeL.nil | exact Le.refl _ | refine LeL.cons ?_ ?_ | exact Le.ic rfl | exact Le.bc rfl | exact Le.i rfl | exact Le.b rfl | exact Le.sl rfl | refine Le.agg ?_ | refine Le.tup ?_ | exact Le.any _)), by simp only [MinusS]; omega⟩, ?_⟩
  cbv
  exact ⟨.i rfl⟩

def Q.room (q : Q) : Bool := !eqB (mn q.cap q.wr q.r1) q.cap
def Q.has (q : Q) : Bool := !eqB q.w1 q.rd
def roomS : Vc.Spec := qS Q.Ptr fun q => .b fun _ => q.room
def hasS : Vc.Spec := qS (fun _ => True) fun q => .b fun _ => q.has

theorem Room_ok : SpecOk (PP ()) 21 roomS := by
  refine spec_of_vc (lv := 2) ctx1_ok ctx1_inl (fnOk_of Try.func21 (by kernel_rfl)) (by kernel_rfl) (qS_lf _ _) (fun a => trivial) ?_
  rintro ⟨cap, words, wr, rd, w0, w1, r0, r1⟩ hp
  obtain ⟨c1, c8, wr0, wr2, rd0, rd2, w00, w02, w10, w12, r00, r02, r10, r12⟩ := hp
  simp only at c1 c8 wr0 wr2 r10 r12
  refine ⟨?_⟩
  cbv
  simp (disch := omega) only [w64]
  refine ⟨⟨cap, wr, r1⟩, ⟨by ((repeat' first | exact LeL.nil | exact Le.refl _ | refine LeL.cons ?_ ?_ | exact Le.ic rfl | exact Le.bc rfl | exact Le.i rfl | exact Le.b rfl | exact Le.sl rfl | refine Le.agg ?_ | refine Le.tup ?_ | exact Le.any _)), by simp only [minusS]; omega⟩, ?_⟩
  cbv
  exact ⟨.b rfl⟩
theorem RRoom_ok : SpecOk (PP ()) 22 roomS := by
  refine spec_of_vc (lv := 2) ctx1_ok ctx1_inl (fnOk_of Try.func22 (by kernel_rfl)) (by kernel_rfl) (qS_lf _ _) (fun a => trivial) ?_
  rintro ⟨cap, words, wr, rd, w0, w1, r0, r1⟩ hp
  obtain ⟨c1, c8, wr0, wr2, rd0, rd2, w00, w02, w10, w12, r00, r02, r10, r12⟩ := hp
  simp only at c1 c8 wr0 wr2 r10 r12
  refine ⟨?_⟩
  cbv
  refine ⟨⟨⟨cap, words, wr, rd, w0, w1, r0, r1⟩, wr, r1⟩, ⟨by ((repeat' first | exact LeL.nil | exact Le.refl _ | refine LeL.cons ?_ ?_ | exact Le.ic rfl | exact Le.bc rfl | exact Le.i rfl | exact Le.b rfl | exact Le.sl rfl | refine Le.agg ?_ | refine Le.tup ?_ | exact Le.any _)), by simp only [MinusS]; omega⟩, ?_⟩
  cbv
  exact ⟨.b rfl⟩
theorem Has_ok : SpecOk (PP ()) 23 hasS := by
  refine spec_of_vc (lv := 2) ctx1_ok ctx1_inl (fnOk_of Try.func23 (by kernel_rfl)) (by kernel_rfl) (qS_lf _ _) (fun a => trivial) ?_
  rintro ⟨cap, words, wr, rd, w0, w1, r0, r1⟩ hp
  refine ⟨?_⟩
  cbv
  exact ⟨.b rfl⟩
theorem RHas_ok : SpecOk (PP ()) 24 hasS := by
  refine spec_of_vc (lv := 2) ctx1_ok ctx1_inl (fnOk_of Try.func24 (by kernel_rfl)) (by kernel_rfl) (qS_lf _ _) (fun a => trivial) ?_
  rintro ⟨cap, words, wr, rd, w0, w1, r0, r1⟩ hp
  refine ⟨?_⟩
  cbv
  exact ⟨.b rfl⟩

def sp2 : List (Nat × Vc.Spec) := [(30, minusS), (33, MinusS), (31, lengthS), (32, lengthS), (21, roomS), (22, roomS), (23, hasS), (24, hasS)]
theorem sp2_ok : All (fun f S => SpecOk (PP ()) f S) sp2 := ⟨minus_ok, Minus_ok, length_ok, Len_ok, Room_ok, RRoom_ok, Has_ok, RHas_ok, trivial⟩
noncomputable def ctx2 : Ctx := { tt := tt, el := el, sp := fun f => tab sp2 f, inl := fun f => tab inl1 f }
theorem ctx2_ok : ctx2.Ok (PP ()) := ⟨tt_ok, el_ok ctx2 rfl, tab_all sp2_ok, fun f fn h => (tab_all inl1_ok f fn h).1, mixed⟩
theorem ctx2_inl : InlOk ctx2 := fun f fn h => (tab_all inl1_ok f fn h).2

/-! ### Writing and reading -/
def nx (c p : Int) : Int := (p + 1) % (2 * c)
def Q.write (q : Q) (has : Bool) (w : Int) : Q :=
  if has && q.room then { q with words := q.words.set (q.wr % q.cap).toNat w, wr := nx q.cap q.wr, r1 := q.r0, r0 := q.rd } else { q with r1 := q.r0, r0 := q.rd }
theorem write_yes {q : Q} {has : Bool} {w : Int} (h : has = true) (h2 : q.room = true) :
    q.write has w = { q with words := q.words.set (q.wr % q.cap).toNat w, wr := nx q.cap q.wr, r1 := q.r0, r0 := q.rd } := by simp [Q.write, h, h2]
theorem write_no {q : Q} {has : Bool} {w : Int} (h : (has && q.room) = false) : q.write has w = { q with r1 := q.r0, r0 := q.rd } := by simp [Q.write, h]
structure WA where
  q : Q
  h : Bool
  w : Int
def writeS : Vc.Spec where
  α := WA
  args x := [.agg (Q.cells fun _ => x.q), .b (fun _ => x.h), .i .i64 (fun _ => x.w)]
  pre x := x.q.Ptr ∧ (x.q.words.length : Int) = x.q.cap
  res x := .tup [.agg (Q.cells fun _ => x.q.write x.h x.w), .b (fun _ => x.h && x.q.room)]
theorem Write_ok : SpecOk (PP ()) 34 writeS := by
  refine spec_of_vc (lv := 2) ctx2_ok ctx2_inl (fnOk_of Try.func34 (by kernel_rfl)) (by kernel_rfl) (fun a => by simp [writeS, LFL, LF, cInt, Q.cells]) (fun a => by simp [writeS, LFL, LF, cInt, Q.cells]) ?_
  intro x hx
  have hl : (x.q.words.length : Int) = x.q.cap := hx.2
  have hp : x.q.Ptr := hx.1
  have c1 := hp.c1
  have c8 := hp.c8
  have wr0 := hp.wr0
  have wr2 := hp.wr2
  refine ⟨?_⟩
  cbv
  refine ⟨fun h => ?_, fun h => ?_⟩
  · have h := h.out
    refine ⟨x.q, ⟨by ((repeat' first | exact LeL.nil | exact Le.refl _ | refine LeL.cons ?_ ?_ | exact Le.ic rfl | exact Le.bc rfl | exact Le.i rfl | exact Le.b rfl | exact Le.sl rfl | refine Le.agg ?_ | refine Le.tup ?_ | exact Le.any _)), hp⟩, ?_⟩
    cbv
    refine ⟨fun h2 => ?_, fun h2 => ?_⟩
    · have h2 := h2.out
      cbv
      refine ⟨fun h3 => ?_, ?_⟩
      · have h3 : x.q.words = [] := h3.out
        simp [h3] at hl; omega
      · have hw : x.q.words.length ≤ 8 := by ((try simp only [Go.Vc.natc] at *); omega)
        have hm0 : 0 ≤ x.q.wr.tmod x.q.cap := Int.tmod_nonneg _ wr0
        have hm1 : x.q.wr.tmod x.q.cap < x.q.cap := Int.tmod_lt_of_pos _ (by omega)
        have hi : (x.q.wr.tmod x.q.cap).toNat < x.q.words.length := by ((try simp only [Go.Vc.natc] at *); omega)
        refine ⟨x.q.words, ⟨by ((repeat' first | exact LeL.nil | exact Le.refl _ | refine LeL.cons ?_ ?_ | exact Le.ic rfl | exact Le.bc rfl | exact Le.i rfl | exact Le.b rfl | exact Le.sl rfl | refine Le.agg ?_ | refine Le.tup ?_ | exact Le.any _)), by show (0 + x.q.words.length) * 8 ≤ _ ∧ 0 + x.q.words.length ≤ _; omega⟩, ?_⟩
        cbv
        refine ⟨⟨by omega⟩, ⟨hm0, hi⟩, (x.q.words[(x.q.wr.tmod x.q.cap).toNat], x.w), ⟨List.getElem?_eq_getElem hi, rfl, by ((repeat' first | exact LeL.nil | exact Le.refl _ | refine LeL.cons ?_ ?_ | exact Le.ic rfl | exact Le.bc rfl | exact Le.i rfl | exact Le.b rfl | exact Le.sl rfl | refine Le.agg ?_ | refine Le.tup ?_ | exact Le.any _))⟩, ?_⟩
        cbv
        refine ⟨⟨by rw [w64 (by omega) (by omega)]; omega⟩, ?_⟩
        have e : Q.write x.q x.h x.w = _ := write_yes h h2
        refine ⟨.tup (.cons (.agg ?_) (.cons (.b (by simp [show x.h = true from h])) .nil))⟩
        simp (disch := omega) only [w64, e]
        rw [Int.tmod_eq_emod_of_nonneg (by omega), Int.tmod_eq_emod_of_nonneg (by omega)]
        ((repeat' first | exact LeL.nil | exact Le.refl _ | refine LeL.cons ?_ ?_ | exact Le.ic rfl | exact Le.bc rfl | exact Le.i rfl | exact Le.b rfl | exact Le.sl rfl | refine Le.agg ?_ | refine Le.tup ?_ | exact Le.any _))
    · have h2 : x.q.room = false := h2.out
      cbv
      have e : Q.write x.q x.h x.w = _ := write_no (by simp [h2])
      refine ⟨.tup (.cons (.agg ?_) (.cons (.b (by simp [h2])) .nil))⟩
      simp only [e]
      ((repeat' first | exact LeL.nil | exact Le.refl _ | refine LeL.cons ?_ ?_ | exact Le.ic rfl | exact Le.bc rfl | exact Le.i rfl | exact Le.b rfl | exact Le.sl rfl | refine Le.agg ?_ | refine Le.tup ?_ | exact Le.any _))
  · have h : x.h = false := h.out
    cbv
    have e : Q.write x.q x.h x.w = _ := write_no (by simp [h])
    refine ⟨.tup (.cons (.agg ?_) (.cons (.bc (by simp [h])) .nil))⟩
    simp only [e]
    ((repeat' first | exact LeL.nil | exact Le.refl _ | refine LeL.cons ?_ ?_ | exact Le.ic rfl | exact Le.bc rfl | exact Le.i rfl | exact Le.b rfl | exact Le.sl rfl | refine Le.agg ?_ | refine Le.tup ?_ | exact Le.any _))

def Q.at (q : Q) (p : Int) : Int := q.words.getD (p % q.cap).toNat 0
def Q.read (q : Q) (takes : Bool) : Q :=
  if takes && q.has then { q with rd := nx q.cap q.rd, w1 := q.w0, w0 := q.wr } else { q with w1 := q.w0, w0 := q.wr }
theorem read_yes {q : Q} {t : Bool} (h : t = true) (h2 : q.has = true) : q.read t = { q with rd := nx q.cap q.rd, w1 := q.w0, w0 := q.wr } := by simp [Q.read, h, h2]
theorem read_no {q : Q} {t : Bool} (h : (t && q.has) = false) : q.read t = { q with w1 := q.w0, w0 := q.wr } := by simp [Q.read, h]
def headV (q : Q) (t : Bool) : Int := if t && q.has then q.at q.rd else 0
structure RA where
  q : Q
  t : Bool
def readS : Vc.Spec where
  α := RA
  args x := [.agg (Q.cells fun _ => x.q), .b (fun _ => x.t)]
  pre x := x.q.Ptr ∧ (x.q.words.length : Int) = x.q.cap
  res x := .tup [.agg (Q.cells fun _ => x.q.read x.t), .agg [.b (fun _ => x.t && x.q.has), .i .i64 (fun _ => headV x.q x.t)]]
theorem at_get {q : Q} {p : Int} (h0 : 0 ≤ p) (h : (p.tmod q.cap).toNat < q.words.length) : q.words[(p.tmod q.cap).toNat]? = some (q.at p) := by
  rw [Int.tmod_eq_emod_of_nonneg h0] at *
  rw [List.getElem?_eq_getElem h, Q.at, List.getD_eq_getElem?_getD, List.getElem?_eq_getElem h]
  rfl
theorem Read_ok : SpecOk (PP ()) 35 readS := by
  refine spec_of_vc (lv := 2) ctx2_ok ctx2_inl (fnOk_of Try.func35 (by kernel_rfl)) (by kernel_rfl) (fun a => by simp [readS, LFL, LF, cInt, Q.cells]) (fun a => by simp [readS, LFL, LF, cInt, Q.cells]) ?_
  intro x hx
  have hl : (x.q.words.length : Int) = x.q.cap := hx.2
  have hp : x.q.Ptr := hx.1
  have c1 := hp.c1
  have c8 := hp.c8
  have rd0 := hp.rd0
  have rd2 := hp.rd2
  have hm0 : 0 ≤ x.q.rd.tmod x.q.cap := Int.tmod_nonneg _ rd0
  have hm1 : x.q.rd.tmod x.q.cap < x.q.cap := Int.tmod_lt_of_pos _ (by omega)
  have hi : (x.q.rd.tmod x.q.cap).toNat < x.q.words.length := by omega
  have hg := at_get rd0 hi
  refine ⟨?_⟩
  cbv
  refine ⟨fun h => ?_, fun h => ?_⟩
  · have h := h.out
    refine ⟨x.q, ⟨by ((repeat' first | exact LeL.nil | exact Le.refl _ | refine LeL.cons ?_ ?_ | exact Le.ic rfl | exact Le.bc rfl | exact Le.i rfl | exact Le.b rfl | exact Le.sl rfl | refine Le.agg ?_ | refine Le.tup ?_ | exact Le.any _)), trivial⟩, ?_⟩
    cbv
    refine ⟨fun h2 => ?_, fun h2 => ?_⟩
    · have h2 := h2.out
      cbv
      obtain ⟨v, hv⟩ : ∃ v, v = x.q.at x.q.rd := ⟨_, rfl⟩
      refine ⟨⟨by omega⟩, v, ⟨hm0, by rw [hv]; exact hg⟩, ?_⟩
      cbv
      refine ⟨⟨by rw [w64 (by omega) (by omega)]; omega⟩, ?_⟩
      have e : Q.read x.q x.t = _ := read_yes h h2
      refine ⟨.tup (.cons (.agg ?_) (.cons (.agg (.cons (.bc ?_) (.cons (.i ?_) .nil))) .nil))⟩
      · simp (disch := omega) only [w64, e]
        rw [Int.tmod_eq_emod_of_nonneg (by omega)]
        ((repeat' first | exact LeL.nil | exact Le.refl _ | refine LeL.cons ?_ ?_ | exact Le.ic rfl | exact Le.bc rfl | exact Le.i rfl | exact Le.b rfl | exact Le.sl rfl | refine Le.agg ?_ | refine Le.tup ?_ | exact Le.any _))
      · simp [h2, show x.t = true from h]
      · rw [hv]; simp [headV, h2, show x.t = true from h]
    · have h2 : x.q.has = false := h2.out
      cbv
      have e : Q.read x.q x.t = _ := read_no (by simp [h2])
      refine ⟨.tup (.cons (.agg ?_) (.cons (.agg ?_) .nil))⟩
      · simp only [e]
        ((repeat' first | exact LeL.nil | exact Le.refl _ | refine LeL.cons ?_ ?_ | exact Le.ic rfl | exact Le.bc rfl | exact Le.i rfl | exact Le.b rfl | exact Le.sl rfl | refine Le.agg ?_ | refine Le.tup ?_ | exact Le.any _))
      · simp [headV, h2]
        ((repeat' first | exact LeL.nil | exact Le.refl _ | refine LeL.cons ?_ ?_ | exact Le.ic rfl | exact Le.bc rfl | exact Le.i rfl | exact Le.b rfl | exact Le.sl rfl | refine Le.agg ?_ | refine Le.tup ?_ | exact Le.any _))
  · have h : x.t = false := h.out
    cbv
    have e : Q.read x.q x.t = _ := read_no (by simp [h])
    refine ⟨.tup (.cons (.agg ?_) (.cons (.agg ?_) .nil))⟩
    · simp only [e]
      ((repeat' first | exact LeL.nil | exact Le.refl _ | refine LeL.cons ?_ ?_ | exact Le.ic rfl | exact Le.bc rfl | exact Le.i rfl | exact Le.b rfl | exact Le.sl rfl | refine Le.agg ?_ | refine Le.tup ?_ | exact Le.any _))
    · simp [headV, h]
      ((repeat' first | exact LeL.nil | exact Le.refl _ | refine LeL.cons ?_ ?_ | exact Le.ic rfl | exact Le.bc rfl | exact Le.i rfl | exact Le.b rfl | exact Le.sl rfl | refine Le.agg ?_ | refine Le.tup ?_ | exact Le.any _))
end Go.Proofs.Fifo
