/-
  The queues' functions, third part: queues compared, the words of a queue, what is valid.
-/
import Derived.Test.YtgmabbmikjdknaaFifoC
set_option linter.unusedVariables false
set_option linter.unusedSimpArgs false
set_option maxRecDepth 10000
set_option maxHeartbeats 1000000
namespace Go.Proofs.Fifo
open Go Go.Vc

def sp5 : List (Nat × Vc.Spec) := (25, intsS) :: (12, madeS) :: (11, madeS) :: (17, tickWS) :: (18, tickWS) :: (19, tickRS) :: (20, tickRS) :: sp4
theorem sp5_ok : All (fun f S => SpecOk (PP ()) f S) sp5 := ⟨Ints_ok, NewIn_ok, created_ok, write_ok, WriteIn_ok, read_ok, ReadIn_ok, sp4_ok⟩
noncomputable def ctx5 : Ctx := { tt := tt, el := el, sp := fun f => tab sp5 f, inl := fun f => tab inl1 f }
theorem ctx5_ok : ctx5.Ok (PP ()) := ⟨tt_ok, el_ok ctx5 rfl, tab_all sp5_ok, fun f fn h => (tab_all inl1_ok f fn h).1, mixed⟩
theorem ctx5_inl : InlOk ctx5 := fun f fn h => (tab_all inl1_ok f fn h).2

def Q.same (a b : Q) : Bool := a.cap == b.cap && a.words == b.words && a.wr == b.wr && a.rd == b.rd && (a.w0 == b.w0 && a.w1 == b.w1) && (a.r0 == b.r0 && a.r1 == b.r1)
theorem same_refl (a : Q) : a.same a = true := by simp [Q.same]
structure QQ where
  a : Q
  b : Q
def sameS : Vc.Spec where
  α := QQ
  args x := [.agg (Q.cells fun _ => x.a), .agg (Q.cells fun _ => x.b)]
  pre x := x.a.words.length < 4611686018427387904
  res x := .b (fun _ => x.a.same x.b)
theorem Same_ok : SpecOk (PP ()) 13 sameS := by
  refine spec_of_vc (lv := 2) ctx5_ok ctx5_inl (fnOk_of Try.func13 (by kernel_rfl)) (by kernel_rfl) (fun a => by simp [sameS, LFL, LF, cInt, Q.cells]) (fun a => by simp [sameS, LFL, LF, cInt]) ?_
  intro x hx
  have hx : x.a.words.length < 4611686018427387904 := hx
  refine ⟨?_⟩
  cbv
  refine ⟨fun h0 => ?_, fun h0 => ?_⟩
  rotate_left
  · have h0 := h0.out
    cbv
    refine ⟨.bc ?_⟩
    simp [Q.same, eqB] at *
    simp [*]
  have h0 := h0.out
  cbv
  refine ⟨⟨x.a.words, x.b.words⟩, ⟨by ((repeat' first | exact LeL.nil | exact Le.refl _ | refine LeL.cons ?_ ?_ | exact Le.ic rfl | exact Le.bc rfl | exact Le.i rfl | exact Le.b rfl | exact Le.sl rfl | exact Le.nils rfl (fun _ => ⟨trivial, trivial⟩) | refine Le.lst rfl (fun _ _ => rfl) (fun _ => ⟨trivial, trivial⟩) ?_ | refine Le.agg ?_ | refine Le.tup ?_ | exact Le.any _)), hx⟩, ?_⟩
  cbv
  refine ⟨fun h1 => ?_, fun h1 => ?_⟩
  rotate_left
  · have h1 := h1.out
    cbv
    refine ⟨.bc ?_⟩
    simp [Q.same, eqB] at *
    simp [*]
  have h1 := h1.out
  cbv
  refine ⟨fun h2 => ?_, fun h2 => ?_⟩
  rotate_left
  · have h2 := h2.out
    cbv
    refine ⟨.bc ?_⟩
    simp [Q.same, eqB] at *
    simp [*]
  have h2 := h2.out
  cbv
  refine ⟨fun h3 => ?_, fun h3 => ?_⟩
  rotate_left
  · have h3 := h3.out
    cbv
    refine ⟨.bc ?_⟩
    simp [Q.same, eqB] at *
    simp [*]
  have h3 := h3.out
  cbv
  refine ⟨fun h4 => ?_, fun h4 => ?_⟩
  rotate_left
  · have h4 := h4.out
    cbv
    refine ⟨.bc ?_⟩
    simp [Q.same, eqB] at *
    simp [*]
    intro a b
    exact absurd b (h4 a)
  have h4 := h4.out
  cbv
  refine ⟨.b ?_⟩
  simp [Q.same, eqB] at *
  simp +contextual [*]

def Q.n (q : Q) : Nat := (mn q.cap q.wr q.rd).toNat
def Q.pre (q : Q) (i : Nat) : List Int := (List.range i).map fun (k : Nat) => q.at (q.rd + (k : Int))
def Q.list (q : Q) : List Int := q.pre q.n
def wordsS : Vc.Spec where
  α := Q
  args q := [.agg (Q.cells fun _ => q)]
  pre q := q.Ptr ∧ (q.words.length : Int) = q.cap
  res q := .sl 1 cInt (fun _ => q.list)
theorem Words_ok : SpecOk (PP ()) 26 wordsS := by
  refine spec_of_vc (lv := 2) ctx5_ok ctx5_inl (fnOk_of Try.func26 (by kernel_rfl)) (by kernel_rfl) (fun a => by simp [wordsS, LFL, LF, cInt, Q.cells]) (fun a => by simp [wordsS, LFL, LF, cInt]) ?_
  intro x hx
  change Q at x
  have hl : (x.words.length : Int) = x.cap := hx.2
  have hp : x.Ptr := hx.1
  have c1 := hp.c1
  have c8 := hp.c8
  have rd0 := hp.rd0
  have rd2 := hp.rd2
  obtain ⟨n0, n2⟩ := mn_range x.cap x.wr x.rd c1
  have hn : (x.n : Int) = mn x.cap x.wr x.rd := by simp [Q.n]; omega
  have hpre : ∀ i : Nat, x.pre (i + 1) = x.pre i ++ [x.at (x.rd + i)] := fun i => by simp [Q.pre, List.range_succ]
  have hplen : ∀ i : Nat, (x.pre i).length = i := fun i => by simp [Q.pre]
  refine ⟨?_⟩
  cbv
  refine ⟨x, ⟨by ((repeat' first | exact LeL.nil | exact Le.refl _ | refine LeL.cons ?_ ?_ | exact Le.ic rfl | exact Le.bc rfl | exact Le.i rfl | exact Le.b rfl | exact Le.sl rfl | exact Le.nils rfl (fun _ => ⟨trivial, trivial⟩) | refine Le.lst rfl (fun _ _ => rfl) (fun _ => ⟨trivial, trivial⟩) ?_ | refine Le.agg ?_ | refine Le.tup ?_ | exact Le.any _)), hp⟩, ?_⟩
  cbv
  refine Sat.adopt 3 3 1 eltInt (fun y => cInt_ok y) rfl ?_
  refine Sat.loop ctx5_ok ctx5_inl (lv := 2) (by kernel_rfl) 2 [(3, 1)] (fun i : Nat => ⟨[.agg (Q.cells fun _ => x), .ptr 0 0, .nils, .own 1, .any, .any, .i .i64 (fun _ => mn x.cap x.wr x.rd), .i .i64 (fun _ => (i : Int))] ++ anys 18,
      [.fix 26 (Q.cells fun _ => x), .dyn 3 1 cInt (fun _ => x.pre i)]⟩)
    (fun i => i ≤ x.n) (fun i => x.n - i) 0 (by ((try cbv) <;> (repeat' (first | with_reducible exact trivial | with_reducible refine And.intro ?_ ?_)) <;> (try first | exact SlotLe.refl _ | exact SlotLe.dyn rfl | refine SlotLe.fix ?_ | refine SlotLe.dyn ?_) <;> ((repeat' first | exact LeL.nil | exact Le.refl _ | refine LeL.cons ?_ ?_ | exact Le.ic rfl | exact Le.bc rfl | exact Le.i rfl | exact Le.b rfl | exact Le.sl rfl | exact Le.nils rfl (fun _ => ⟨trivial, trivial⟩) | refine Le.lst rfl (fun _ _ => rfl) (fun _ => ⟨trivial, trivial⟩) ?_ | refine Le.agg ?_ | refine Le.tup ?_ | exact Le.any _)))) (by ((try cbv) <;> (repeat' (first | with_reducible exact trivial | with_reducible refine And.intro ?_ ?_)) <;> (try first | exact SlotLe.refl _ | exact SlotLe.dyn rfl | refine SlotLe.fix ?_ | refine SlotLe.dyn ?_) <;> ((repeat' first | exact LeL.nil | exact Le.refl _ | refine LeL.cons ?_ ?_ | exact Le.ic rfl | exact Le.bc rfl | exact Le.i rfl | exact Le.b rfl | exact Le.sl rfl | exact Le.nils rfl (fun _ => ⟨trivial, trivial⟩) | refine Le.lst rfl (fun _ _ => rfl) (fun _ => ⟨trivial, trivial⟩) ?_ | refine Le.agg ?_ | refine Le.tup ?_ | exact Le.any _)))) (by omega) ?_
  intro i hi
  cbv
  refine ⟨fun h => ?_, fun h => ?_⟩
  · have h := h.out
    have hlt : i < x.n := by simp [ltB] at h; ((try simp only [Go.Vc.natc] at *); omega)
    have hm0 : 0 ≤ (x.rd + (i : Int)).tmod x.cap := Int.tmod_nonneg _ (by omega)
    have hm1 : (x.rd + (i : Int)).tmod x.cap < x.cap := Int.tmod_lt_of_pos _ (by omega)
    have hix : ((x.rd + (i : Int)).tmod x.cap).toNat < x.words.length := by ((try simp only [Go.Vc.natc] at *); omega)
    have hg := at_get (q := x) (p := x.rd + (i : Int)) (by ((try simp only [Go.Vc.natc] at *); omega)) hix
    obtain ⟨v, hv⟩ : ∃ v, v = x.at (x.rd + (i : Int)) := ⟨_, rfl⟩
    have hw : IntKind.i64.wrap (x.rd + (i : Int)) = x.rd + (i : Int) := w64 (by ((try simp only [Go.Vc.natc] at *); omega)) (by ((try simp only [Go.Vc.natc] at *); omega))
    cbv
    refine ⟨⟨by omega⟩, v, ⟨by show 0 ≤ (IntKind.i64.wrap (x.rd + (i : Int))).tmod x.cap; rw [hw]; exact hm0, by show x.words[((IntKind.i64.wrap (x.rd + (i : Int))).tmod x.cap).toNat]? = _; rw [hw, hv]; exact hg⟩, ?_⟩
    cbv
    refine ⟨[v], ⟨by ((repeat' first | exact LeL.nil | exact Le.refl _ | refine LeL.cons ?_ ?_ | exact Le.ic rfl | exact Le.bc rfl | exact Le.i rfl | exact Le.b rfl | exact Le.sl rfl | exact Le.nils rfl (fun _ => ⟨trivial, trivial⟩) | refine Le.lst rfl (fun _ _ => rfl) (fun _ => ⟨trivial, trivial⟩) ?_ | refine Le.agg ?_ | refine Le.tup ?_ | exact Le.any _)), by show ((x.pre i).length + 1) * 8 ≤ _ ∧ (x.pre i).length + 1 ≤ _; rw [hplen]; ((try simp only [Go.Vc.natc] at *); omega)⟩, ?_⟩
    cbv
    refine ⟨i + 1, by ((try cbv) <;> (repeat' (first | with_reducible exact trivial | with_reducible refine And.intro ?_ ?_)) <;> (try first | exact SlotLe.refl _ | exact SlotLe.dyn rfl | refine SlotLe.fix ?_ | refine SlotLe.dyn ?_) <;> ((repeat' first | exact LeL.nil | exact Le.refl _ | refine LeL.cons ?_ ?_ | exact Le.ic rfl | exact Le.bc rfl | exact Le.i rfl | exact Le.b rfl | exact Le.sl rfl | exact Le.nils rfl (fun _ => ⟨trivial, trivial⟩) | refine Le.lst rfl (fun _ _ => rfl) (fun _ => ⟨trivial, trivial⟩) ?_ | refine Le.agg ?_ | refine Le.tup ?_ | exact Le.any _))) <;> (refine .i ?_; show IntKind.i64.wrap ((i : Int) + 1) = ((i + 1 : Nat) : Int); rw [w64 (by ((try simp only [Go.Vc.natc] at *); omega)) (by ((try simp only [Go.Vc.natc] at *); omega))]; rfl), by ((try cbv) <;> (repeat' (first | with_reducible exact trivial | with_reducible refine And.intro ?_ ?_)) <;> (try first | exact SlotLe.refl _ | exact SlotLe.dyn rfl | refine SlotLe.fix ?_ | refine SlotLe.dyn ?_) <;> ((repeat' first | exact LeL.nil | exact Le.refl _ | refine LeL.cons ?_ ?_ | exact Le.ic rfl | exact Le.bc rfl | exact Le.i rfl | exact Le.b rfl | exact Le.sl rfl | exact Le.nils rfl (fun _ => ⟨trivial, trivial⟩) | refine Le.lst rfl (fun _ _ => rfl) (fun _ => ⟨trivial, trivial⟩) ?_ | refine Le.agg ?_ | refine Le.tup ?_ | exact Le.any _))) <;> (show x.pre i ++ [v] = x.pre (i + 1); rw [hpre, hv]), ⟨by show i + 1 ≤ x.n ∧ x.n - (i + 1) < x.n - i; omega⟩⟩
  · have h := h.out
    have hlt : i = x.n := by simp [ltB] at h; ((try simp only [Go.Vc.natc] at *); omega)
    cbv
    refine ⟨.sl ?_⟩
    simp [Q.list, hlt]
theorem RWords_ok : SpecOk (PP ()) 27 wordsS := by
  refine spec_of_vc (lv := 2) ctx5_ok ctx5_inl (fnOk_of Try.func27 (by kernel_rfl)) (by kernel_rfl) (fun a => by simp [wordsS, LFL, LF, cInt, Q.cells]) (fun a => by simp [wordsS, LFL, LF, cInt]) ?_
  intro x hx
  change Q at x
  have hl : (x.words.length : Int) = x.cap := hx.2
  have hp : x.Ptr := hx.1
  have c1 := hp.c1
  have c8 := hp.c8
  have rd0 := hp.rd0
  have rd2 := hp.rd2
  obtain ⟨n0, n2⟩ := mn_range x.cap x.wr x.rd c1
  have hn : (x.n : Int) = mn x.cap x.wr x.rd := by simp [Q.n]; omega
  have hpre : ∀ i : Nat, x.pre (i + 1) = x.pre i ++ [x.at (x.rd + i)] := fun i => by simp [Q.pre, List.range_succ]
  have hplen : ∀ i : Nat, (x.pre i).length = i := fun i => by simp [Q.pre]
  refine ⟨?_⟩
  cbv
  refine Sat.loop ctx5_ok ctx5_inl (lv := 2) (by kernel_rfl) 2 [(3, 1)] (fun i : Nat => ⟨[.agg (Q.cells fun _ => x), .ptr 0 0, .nils, .own 1, .i .i64 (fun _ => (i : Int))] ++ anys 22,
      [.fix 26 (Q.cells fun _ => x), .dyn 3 1 cInt (fun _ => x.pre i)]⟩)
    (fun i => i ≤ x.n) (fun i => x.n - i) 0 (by ((try cbv) <;> (repeat' (first | with_reducible exact trivial | with_reducible refine And.intro ?_ ?_)) <;> (try first | exact SlotLe.refl _ | exact SlotLe.dyn rfl | refine SlotLe.fix ?_ | refine SlotLe.dyn ?_) <;> ((repeat' first | exact LeL.nil | exact Le.refl _ | refine LeL.cons ?_ ?_ | exact Le.ic rfl | exact Le.bc rfl | exact Le.i rfl | exact Le.b rfl | exact Le.sl rfl | exact Le.nils rfl (fun _ => ⟨trivial, trivial⟩) | refine Le.lst rfl (fun _ _ => rfl) (fun _ => ⟨trivial, trivial⟩) ?_ | refine Le.agg ?_ | refine Le.tup ?_ | exact Le.any _)))) (by ((try cbv) <;> (repeat' (first | with_reducible exact trivial | with_reducible refine And.intro ?_ ?_)) <;> (try first | exact SlotLe.refl _ | exact SlotLe.dyn rfl | refine SlotLe.fix ?_ | refine SlotLe.dyn ?_) <;> ((repeat' first | exact LeL.nil | exact Le.refl _ | refine LeL.cons ?_ ?_ | exact Le.ic rfl | exact Le.bc rfl | exact Le.i rfl | exact Le.b rfl | exact Le.sl rfl | exact Le.nils rfl (fun _ => ⟨trivial, trivial⟩) | refine Le.lst rfl (fun _ _ => rfl) (fun _ => ⟨trivial, trivial⟩) ?_ | refine Le.agg ?_ | refine Le.tup ?_ | exact Le.any _)))) (by omega) ?_
  intro i hi
  cbv
  refine ⟨x, ⟨by ((repeat' first | exact LeL.nil | exact Le.refl _ | refine LeL.cons ?_ ?_ | exact Le.ic rfl | exact Le.bc rfl | exact Le.i rfl | exact Le.b rfl | exact Le.sl rfl | exact Le.nils rfl (fun _ => ⟨trivial, trivial⟩) | refine Le.lst rfl (fun _ _ => rfl) (fun _ => ⟨trivial, trivial⟩) ?_ | refine Le.agg ?_ | refine Le.tup ?_ | exact Le.any _)), hp⟩, ?_⟩
  cbv
  refine ⟨fun h => ?_, fun h => ?_⟩
  · have h := h.out
    have hlt : i < x.n := by simp [ltB] at h; ((try simp only [Go.Vc.natc] at *); omega)
    have hm0 : 0 ≤ (x.rd + (i : Int)).tmod x.cap := Int.tmod_nonneg _ (by omega)
    have hm1 : (x.rd + (i : Int)).tmod x.cap < x.cap := Int.tmod_lt_of_pos _ (by omega)
    have hix : ((x.rd + (i : Int)).tmod x.cap).toNat < x.words.length := by ((try simp only [Go.Vc.natc] at *); omega)
    have hg := at_get (q := x) (p := x.rd + (i : Int)) (by ((try simp only [Go.Vc.natc] at *); omega)) hix
    obtain ⟨v, hv⟩ : ∃ v, v = x.at (x.rd + (i : Int)) := ⟨_, rfl⟩
    have hw : IntKind.i64.wrap (x.rd + (i : Int)) = x.rd + (i : Int) := w64 (by ((try simp only [Go.Vc.natc] at *); omega)) (by ((try simp only [Go.Vc.natc] at *); omega))
    cbv
    refine ⟨⟨by omega⟩, v, ⟨by show 0 ≤ (IntKind.i64.wrap (x.rd + (i : Int))).tmod x.cap; rw [hw]; exact hm0, by show x.words[((IntKind.i64.wrap (x.rd + (i : Int))).tmod x.cap).toNat]? = _; rw [hw, hv]; exact hg⟩, ?_⟩
    cbv
    refine ⟨[v], ⟨by ((repeat' first | exact LeL.nil | exact Le.refl _ | refine LeL.cons ?_ ?_ | exact Le.ic rfl | exact Le.bc rfl | exact Le.i rfl | exact Le.b rfl | exact Le.sl rfl | exact Le.nils rfl (fun _ => ⟨trivial, trivial⟩) | refine Le.lst rfl (fun _ _ => rfl) (fun _ => ⟨trivial, trivial⟩) ?_ | refine Le.agg ?_ | refine Le.tup ?_ | exact Le.any _)), by show ((x.pre i).length + 1) * 8 ≤ _ ∧ (x.pre i).length + 1 ≤ _; rw [hplen]; ((try simp only [Go.Vc.natc] at *); omega)⟩, ?_⟩
    cbv
    refine ⟨i + 1, by ((try cbv) <;> (repeat' (first | with_reducible exact trivial | with_reducible refine And.intro ?_ ?_)) <;> (try first | exact SlotLe.refl _ | exact SlotLe.dyn rfl | refine SlotLe.fix ?_ | refine SlotLe.dyn ?_) <;> ((repeat' first | exact LeL.nil | exact Le.refl _ | refine LeL.cons ?_ ?_ | exact Le.ic rfl | exact Le.bc rfl | exact Le.i rfl | exact Le.b rfl | exact Le.sl rfl | exact Le.nils rfl (fun _ => ⟨trivial, trivial⟩) | refine Le.lst rfl (fun _ _ => rfl) (fun _ => ⟨trivial, trivial⟩) ?_ | refine Le.agg ?_ | refine Le.tup ?_ | exact Le.any _))) <;> (refine .i ?_; show IntKind.i64.wrap ((i : Int) + 1) = ((i + 1 : Nat) : Int); rw [w64 (by ((try simp only [Go.Vc.natc] at *); omega)) (by ((try simp only [Go.Vc.natc] at *); omega))]; rfl), by ((try cbv) <;> (repeat' (first | with_reducible exact trivial | with_reducible refine And.intro ?_ ?_)) <;> (try first | exact SlotLe.refl _ | exact SlotLe.dyn rfl | refine SlotLe.fix ?_ | refine SlotLe.dyn ?_) <;> ((repeat' first | exact LeL.nil | exact Le.refl _ | refine LeL.cons ?_ ?_ | exact Le.ic rfl | exact Le.bc rfl | exact Le.i rfl | exact Le.b rfl | exact Le.sl rfl | exact Le.nils rfl (fun _ => ⟨trivial, trivial⟩) | refine Le.lst rfl (fun _ _ => rfl) (fun _ => ⟨trivial, trivial⟩) ?_ | refine Le.agg ?_ | refine Le.tup ?_ | exact Le.any _))) <;> (show x.pre i ++ [v] = x.pre (i + 1); rw [hpre, hv]), ⟨by show i + 1 ≤ x.n ∧ x.n - (i + 1) < x.n - i; omega⟩⟩
  · have h := h.out
    have hlt : i = x.n := by simp [ltB] at h; ((try simp only [Go.Vc.natc] at *); omega)
    cbv
    refine ⟨.sl ?_⟩
    simp [Q.list, hlt]

/-! ### What is valid -/
def Q.inB (q : Q) (p : Int) : Bool := leB 0 p && ltB p (2 * q.cap)
def Q.valid (q : Q) : Bool := leB 1 q.cap && leB q.cap 8 && eqB (q.words.length : Int) q.cap && (q.inB q.wr && q.inB q.rd && q.inB q.w0 && q.inB q.w1 && q.inB q.r0 && q.inB q.r1) &&
  leB (mn q.cap q.wr q.rd + mn q.cap q.rd q.r0 + mn q.cap q.r0 q.r1) q.cap && leB (mn q.cap q.wr q.w0 + mn q.cap q.w0 q.w1) (mn q.cap q.wr q.rd)
theorem valid_iff (q : Q) : q.valid = true ↔ q.Inv := by
  simp only [Q.valid, Q.inB, leB, ltB, eqB, Bool.and_eq_true, decide_eq_true_eq, beq_iff_eq]
  constructor
  · rintro ⟨⟨⟨⟨⟨a1, a2⟩, a3⟩, ⟨⟨⟨⟨⟨⟨b1, b2⟩, b3, b4⟩, b5, b6⟩, b7, b8⟩, b9, b10⟩, b11, b12⟩⟩, a4⟩, a5⟩
    exact ⟨⟨a1, a2, b1, b2, b3, b4, b5, b6, b7, b8, b9, b10, b11, b12⟩, a3, a4, a5⟩
  · rintro ⟨⟨a1, a2, b1, b2, b3, b4, b5, b6, b7, b8, b9, b10, b11, b12⟩, a3, a4, a5⟩
    exact ⟨⟨⟨⟨⟨a1, a2⟩, a3⟩, ⟨⟨⟨⟨⟨⟨b1, b2⟩, b3, b4⟩, b5, b6⟩, b7, b8⟩, b9, b10⟩, b11, b12⟩⟩, a4⟩, a5⟩
theorem valid_no {q : Q} (h : q.Inv → False) : q.valid = false := by
  cases e : q.valid with
  | false => rfl
  | true => exact (h ((valid_iff q).1 e)).elim
def Q.err (q : Q) : Int := if q.valid then 0 else 430
theorem err_no {q : Q} (h : q.Inv → False) : 430 = q.err := by simp [Q.err, valid_no h]
theorem err_yes {q : Q} (h : q.Inv) : 0 = q.err := by simp [Q.err, (valid_iff q).2 h]
def validS : Vc.Spec := qS (fun _ => True) fun q => .i .i64 fun _ => q.err
theorem Valid_ok : SpecOk (PP ()) 14 validS := by
  refine spec_of_vc (lv := 2) ctx5_ok ctx5_inl (fnOk_of Try.func14 (by kernel_rfl)) (by kernel_rfl) (qS_lf _ _) (fun a => trivial) ?_
  intro x hx
  change Q at x
  refine ⟨?_⟩
  cbv
  refine ⟨fun h1 => ?_, fun h1 => ?_⟩
  · have h1 := h1.out
    cbv
    refine ⟨.ic (err_no fun I => ?_)⟩
    have := I.p.c1
    simp [ltB] at h1
    omega
  have h1 := h1.out
  cbv
  refine ⟨fun h2 => ?_, fun h2 => ?_⟩
  · have h2 := h2.out
    cbv
    refine ⟨.ic (err_no fun I => ?_)⟩
    have := I.p.c8
    simp [ltB] at h2
    omega
  have h2 := h2.out
  cbv
  refine ⟨fun h3 => ?_, fun h3 => ?_⟩
  · have h3 := h3.out
    cbv
    refine ⟨.ic (err_no fun I => ?_)⟩
    have := I.len
    simp [eqB] at h3
    ((try simp only [Go.Vc.natc] at *); omega)
  have h3 := h3.out
  have c1 : 1 ≤ x.cap := by simp [ltB] at h1; omega
  have c8 : x.cap ≤ 8 := by simp [ltB] at h2; omega
  have c3 : (x.words.length : Int) = x.cap := by simp [eqB] at h3; ((try simp only [Go.Vc.natc] at *); omega)
  have hw2 : IntKind.i64.wrap (2 * x.cap) = 2 * x.cap := w64 (by omega) (by omega)
  cbv
  refine Sat.rounds ctx5_ok ctx5_inl (lv := 2) (by kernel_rfl) 6 ?_
  cbv
  refine ⟨fun a => ?_, fun a => ?_⟩
  rotate_left
  · have a := a.out
    cbv
    refine ⟨.ic (err_no fun I => ?_)⟩
    have := I.p.wr0
    simp [leB] at a
    omega
  have a := a.out
  have wr0 : 0 ≤ x.wr := by simpa [leB] using a
  cbv
  refine ⟨fun b => ?_, fun b => ?_⟩
  · have b := b.out
    cbv
    refine ⟨.ic (err_no fun I => ?_)⟩
    have := I.p.wr2
    simp [ltB, hw2] at b
    omega
  have b := b.out
  have wr2 : x.wr < 2 * x.cap := by simpa [ltB, hw2] using b
  cbv
  refine ⟨fun a => ?_, fun a => ?_⟩
  rotate_left
  · have a := a.out
    cbv
    refine ⟨.ic (err_no fun I => ?_)⟩
    have := I.p.rd0
    simp [leB] at a
    omega
  have a := a.out
  have rd0 : 0 ≤ x.rd := by simpa [leB] using a
  cbv
  refine ⟨fun b => ?_, fun b => ?_⟩
  · have b := b.out
    cbv
    refine ⟨.ic (err_no fun I => ?_)⟩
    have := I.p.rd2
    simp [ltB, hw2] at b
    omega
  have b := b.out
  have rd2 : x.rd < 2 * x.cap := by simpa [ltB, hw2] using b
  cbv
  refine ⟨fun a => ?_, fun a => ?_⟩
  rotate_left
  · have a := a.out
    cbv
    refine ⟨.ic (err_no fun I => ?_)⟩
    have := I.p.w00
    simp [leB] at a
    omega
  have a := a.out
  have w00 : 0 ≤ x.w0 := by simpa [leB] using a
  cbv
  refine ⟨fun b => ?_, fun b => ?_⟩
  · have b := b.out
    cbv
    refine ⟨.ic (err_no fun I => ?_)⟩
    have := I.p.w02
    simp [ltB, hw2] at b
    omega
  have b := b.out
  have w02 : x.w0 < 2 * x.cap := by simpa [ltB, hw2] using b
  cbv
  refine ⟨fun a => ?_, fun a => ?_⟩
  rotate_left
  · have a := a.out
    cbv
    refine ⟨.ic (err_no fun I => ?_)⟩
    have := I.p.w10
    simp [leB] at a
    omega
  have a := a.out
  have w10 : 0 ≤ x.w1 := by simpa [leB] using a
  cbv
  refine ⟨fun b => ?_, fun b => ?_⟩
  · have b := b.out
    cbv
    refine ⟨.ic (err_no fun I => ?_)⟩
    have := I.p.w12
    simp [ltB, hw2] at b
    omega
  have b := b.out
  have w12 : x.w1 < 2 * x.cap := by simpa [ltB, hw2] using b
  cbv
  refine ⟨fun a => ?_, fun a => ?_⟩
  rotate_left
  · have a := a.out
    cbv
    refine ⟨.ic (err_no fun I => ?_)⟩
    have := I.p.r00
    simp [leB] at a
    omega
  have a := a.out
  have r00 : 0 ≤ x.r0 := by simpa [leB] using a
  cbv
  refine ⟨fun b => ?_, fun b => ?_⟩
  · have b := b.out
    cbv
    refine ⟨.ic (err_no fun I => ?_)⟩
    have := I.p.r02
    simp [ltB, hw2] at b
    omega
  have b := b.out
  have r02 : x.r0 < 2 * x.cap := by simpa [ltB, hw2] using b
  cbv
  refine ⟨fun a => ?_, fun a => ?_⟩
  rotate_left
  · have a := a.out
    cbv
    refine ⟨.ic (err_no fun I => ?_)⟩
    have := I.p.r10
    simp [leB] at a
    omega
  have a := a.out
  have r10 : 0 ≤ x.r1 := by simpa [leB] using a
  cbv
  refine ⟨fun b => ?_, fun b => ?_⟩
  · have b := b.out
    cbv
    refine ⟨.ic (err_no fun I => ?_)⟩
    have := I.p.r12
    simp [ltB, hw2] at b
    omega
  have b := b.out
  have r12 : x.r1 < 2 * x.cap := by simpa [ltB, hw2] using b
  cbv
  have hp : x.Ptr := ⟨c1, c8, wr0, wr2, rd0, rd2, w00, w02, w10, w12, r00, r02, r10, r12⟩
  have m1 := mn_range x.cap x.wr x.rd c1
  have m2 := mn_range x.cap x.rd x.r0 c1
  have m3 := mn_range x.cap x.r0 x.r1 c1
  have m4 := mn_range x.cap x.wr x.w0 c1
  have m5 := mn_range x.cap x.w0 x.w1 c1
  have e1 : IntKind.i64.wrap (mn x.cap x.rd x.r0 + mn x.cap x.r0 x.r1) = mn x.cap x.rd x.r0 + mn x.cap x.r0 x.r1 := w64 (by omega) (by omega)
  have e2 : IntKind.i64.wrap (mn x.cap x.wr x.w0 + mn x.cap x.w0 x.w1) = mn x.cap x.wr x.w0 + mn x.cap x.w0 x.w1 := w64 (by omega) (by omega)
  refine ⟨⟨x.cap, x.rd, x.r0⟩, ⟨by ((repeat' first | exact LeL.nil | exact Le.refl _ | refine LeL.cons ?_ ?_ | exact Le.ic rfl | exact Le.bc rfl | exact Le.i rfl | exact Le.b rfl | exact Le.sl rfl | exact Le.nils rfl (fun _ => ⟨trivial, trivial⟩) | refine Le.lst rfl (fun _ _ => rfl) (fun _ => ⟨trivial, trivial⟩) ?_ | refine Le.agg ?_ | refine Le.tup ?_ | exact Le.any _)), ⟨c1, c8, rd0, rd2, r00, r02⟩⟩, ?_⟩
  cbv
  refine ⟨⟨x.cap, x.r0, x.r1⟩, ⟨by ((repeat' first | exact LeL.nil | exact Le.refl _ | refine LeL.cons ?_ ?_ | exact Le.ic rfl | exact Le.bc rfl | exact Le.i rfl | exact Le.b rfl | exact Le.sl rfl | exact Le.nils rfl (fun _ => ⟨trivial, trivial⟩) | refine Le.lst rfl (fun _ _ => rfl) (fun _ => ⟨trivial, trivial⟩) ?_ | refine Le.agg ?_ | refine Le.tup ?_ | exact Le.any _)), ⟨c1, c8, r00, r02, r10, r12⟩⟩, ?_⟩
  cbv
  refine ⟨⟨x.cap, x.wr, x.w0⟩, ⟨by ((repeat' first | exact LeL.nil | exact Le.refl _ | refine LeL.cons ?_ ?_ | exact Le.ic rfl | exact Le.bc rfl | exact Le.i rfl | exact Le.b rfl | exact Le.sl rfl | exact Le.nils rfl (fun _ => ⟨trivial, trivial⟩) | refine Le.lst rfl (fun _ _ => rfl) (fun _ => ⟨trivial, trivial⟩) ?_ | refine Le.agg ?_ | refine Le.tup ?_ | exact Le.any _)), ⟨c1, c8, wr0, wr2, w00, w02⟩⟩, ?_⟩
  cbv
  refine ⟨⟨x.cap, x.w0, x.w1⟩, ⟨by ((repeat' first | exact LeL.nil | exact Le.refl _ | refine LeL.cons ?_ ?_ | exact Le.ic rfl | exact Le.bc rfl | exact Le.i rfl | exact Le.b rfl | exact Le.sl rfl | exact Le.nils rfl (fun _ => ⟨trivial, trivial⟩) | refine Le.lst rfl (fun _ _ => rfl) (fun _ => ⟨trivial, trivial⟩) ?_ | refine Le.agg ?_ | refine Le.tup ?_ | exact Le.any _)), ⟨c1, c8, w00, w02, w10, w12⟩⟩, ?_⟩
  cbv
  refine ⟨x, ⟨by ((repeat' first | exact LeL.nil | exact Le.refl _ | refine LeL.cons ?_ ?_ | exact Le.ic rfl | exact Le.bc rfl | exact Le.i rfl | exact Le.b rfl | exact Le.sl rfl | exact Le.nils rfl (fun _ => ⟨trivial, trivial⟩) | refine Le.lst rfl (fun _ _ => rfl) (fun _ => ⟨trivial, trivial⟩) ?_ | refine Le.agg ?_ | refine Le.tup ?_ | exact Le.any _)), hp⟩, ?_⟩
  cbv
  have e3 : IntKind.i64.wrap (mn x.cap x.wr x.rd + (mn x.cap x.rd x.r0 + mn x.cap x.r0 x.r1)) = mn x.cap x.wr x.rd + (mn x.cap x.rd x.r0 + mn x.cap x.r0 x.r1) := w64 (by omega) (by omega)
  refine ⟨fun a => ?_, fun a => ?_⟩
  · have a := a.out
    cbv
    refine ⟨.ic (err_no fun I => ?_)⟩
    have := I.behind
    simp [ltB, e1, e3] at a
    omega
  have a := a.out
  simp [ltB, e1, e3] at a
  cbv
  refine ⟨x, ⟨by ((repeat' first | exact LeL.nil | exact Le.refl _ | refine LeL.cons ?_ ?_ | exact Le.ic rfl | exact Le.bc rfl | exact Le.i rfl | exact Le.b rfl | exact Le.sl rfl | exact Le.nils rfl (fun _ => ⟨trivial, trivial⟩) | refine Le.lst rfl (fun _ _ => rfl) (fun _ => ⟨trivial, trivial⟩) ?_ | refine Le.agg ?_ | refine Le.tup ?_ | exact Le.any _)), hp⟩, ?_⟩
  cbv
  refine ⟨fun b => ?_, fun b => ?_⟩
  · have b := b.out
    cbv
    refine ⟨.ic (err_no fun I => ?_)⟩
    have := I.unseen
    simp [ltB, e2] at b
    omega
  have b := b.out
  simp [ltB, e2] at b
  cbv
  exact ⟨.ic (err_yes ⟨hp, c3, by omega, by omega⟩)⟩
end Go.Proofs.Fifo
