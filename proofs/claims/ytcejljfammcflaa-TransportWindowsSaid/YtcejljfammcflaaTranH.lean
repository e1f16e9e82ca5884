/-
  The transport's functions, seventh part: packets are received.
-/
import Derived.Test.YtcejljfammcflaaTranG
set_option linter.unusedVariables false
set_option linter.unusedSimpArgs false
set_option maxRecDepth 10000
set_option maxHeartbeats 1000000
namespace Go.Proofs.Tran
open Go Go.Vc

noncomputable def accB (l : Lk) (p : Pk) : Bool :=
  !(ltB p.seq (-1)) && !(ltB p.seq 0 && ltB 0 (p.data.length : Int)) && !(ltB p.ack 0) && !(ltB (l.out.length : Int) (p.ack - l.base)) && !(ltB 256 (p.data.length : Int)) && eqB p.check (p.tag l.key)
structure LP where
  l : Lk
  p : Pk
/-- A link and a packet with which nothing runs over. -/
structure LP.Ok (x : LP) : Prop where
  o : Sm x.l.out
  i : Sm x.l.ins
  d : x.p.data.length ≤ 1000000
  a : x.p.ack ≤ 9223372036854775807
  b : 0 ≤ x.l.base
  b1 : x.l.base ≤ 1000000000
  g : 0 ≤ x.l.got
  g1 : x.l.got ≤ 1000000000
noncomputable def acceptedS : Vc.Spec where
  α := LP
  args x := [.agg (Lk.cells fun _ => x.l), .agg (Pk.cells fun _ => x.p)]
  pre x := x.Ok
  res x := .b (fun _ => accB x.l x.p)
theorem accepted_ok : SpecOk (PP ()) 56 acceptedS := by
  refine spec_of_vc (lv := 3) ctx13_ok ctx13_inl (fnOk_of Try.func56 (by kernel_rfl)) (by kernel_rfl) (fun a => ⟨Lk.lf fun _ => a.l, Pk.lf fun _ => a.p, trivial⟩) (fun a => trivial) ?_
  intro x hx
  have hx : x.Ok := hx
  have hd := hx.d
  refine ⟨?_⟩
  cbv
  refine ⟨fun e => ?_, fun e => ?_⟩
  · have e : ltB x.p.seq (-1) = true := e.out
    cbv
    exact ⟨.bc (by simp [accB, e])⟩
  have e1 : ltB x.p.seq (-1) = false := e.out
  cbv
  refine ⟨fun e => ?_, fun e => ?_⟩
  · have e2 : ltB x.p.seq 0 = true := e.out
    cbv
    refine ⟨fun e => ?_, fun e => ?_⟩
    · have e : ltB 0 (x.p.data.length : Int) = true := e.out
      cbv
      exact ⟨.bc (by simp [accB, e, e2])⟩
    have e3 : ltB 0 (x.p.data.length : Int) = false := e.out
    have h2 : (ltB x.p.seq 0 && ltB 0 (x.p.data.length : Int)) = false := by rw [e3]; simp
    cbv
    refine ⟨fun e => ?_, fun e => ?_⟩
    · have e : ltB x.p.ack 0 = true := e.out
      cbv
      exact ⟨.bc (by simp [accB, e])⟩
    have e4 : ltB x.p.ack 0 = false := e.out
    have a0 : 0 ≤ x.p.ack := by simpa [ltB] using e4
    have hw : IntKind.i64.wrap (x.p.ack - x.l.base) = x.p.ack - x.l.base := w64 (by have := hx.b1; omega) (by have := hx.b; have := hx.a; omega)
    cbv
    refine ⟨fun e => ?_, fun e => ?_⟩
    · have e : ltB (x.l.out.length : Int) (IntKind.i64.wrap (x.p.ack - x.l.base)) = true := e.out
      rw [show IntKind.i64.wrap (x.p.ack - x.l.base) = x.p.ack - x.l.base from hw] at e
      cbv
      exact ⟨.bc (by simp [accB, e])⟩
    have e5 : ltB (x.l.out.length : Int) (IntKind.i64.wrap (x.p.ack - x.l.base)) = false := e.out
    rw [show IntKind.i64.wrap (x.p.ack - x.l.base) = x.p.ack - x.l.base from hw] at e5
    cbv
    refine ⟨fun e => ?_, fun e => ?_⟩
    · have e : ltB 256 (x.p.data.length : Int) = true := e.out
      cbv
      exact ⟨.bc (by simp [accB, e])⟩
    have e6 : ltB 256 (x.p.data.length : Int) = false := e.out
    cbv
    obtain ⟨n, hn⟩ : ∃ n : Int, n = (x.p.data.length : Int) := ⟨_, rfl⟩
    refine ⟨⟨x.l.key, x.p.data, x.p.seq, x.p.ack, n⟩, ⟨by cbv; rw [hn]; ((repeat' first | exact LeL.nil | exact Le.refl _ | refine LeL.cons ?_ ?_ | exact Le.ic rfl | exact Le.bc rfl | exact Le.i rfl | exact Le.b rfl | exact Le.sl rfl | exact Le.nils rfl (fun _ => ⟨trivial, trivial⟩) | refine Le.lst rfl (fun _ _ => rfl) (fun _ => ⟨trivial, trivial⟩) ?_ | refine Le.lst rfl (fun _ _ => rfl) (fun _ => ⟨fun _ => ⟨trivial, trivial⟩, trivial⟩) ?_ | exact Le.nils rfl (fun _ => ⟨fun _ => ⟨trivial, trivial⟩, trivial⟩) | refine Le.agg ?_ | refine Le.tup ?_ | exact Le.any _)), hd, rfl⟩, ?_⟩
    cbv
    exact ⟨.b (by rw [hn]; simp only [accB, Pk.tag]; rw [e1, h2, e4, e5, e6]; rfl)⟩
  · have e2 : ltB x.p.seq 0 = false := e.out
    have h2 : (ltB x.p.seq 0 && ltB 0 (x.p.data.length : Int)) = false := by rw [e2]; rfl
    cbv
    refine ⟨fun e => ?_, fun e => ?_⟩
    · have e : ltB x.p.ack 0 = true := e.out
      cbv
      exact ⟨.bc (by simp [accB, e])⟩
    have e4 : ltB x.p.ack 0 = false := e.out
    have a0 : 0 ≤ x.p.ack := by simpa [ltB] using e4
    have hw : IntKind.i64.wrap (x.p.ack - x.l.base) = x.p.ack - x.l.base := w64 (by have := hx.b1; omega) (by have := hx.b; have := hx.a; omega)
    cbv
    refine ⟨fun e => ?_, fun e => ?_⟩
    · have e : ltB (x.l.out.length : Int) (IntKind.i64.wrap (x.p.ack - x.l.base)) = true := e.out
      rw [show IntKind.i64.wrap (x.p.ack - x.l.base) = x.p.ack - x.l.base from hw] at e
      cbv
      exact ⟨.bc (by simp [accB, e])⟩
    have e5 : ltB (x.l.out.length : Int) (IntKind.i64.wrap (x.p.ack - x.l.base)) = false := e.out
    rw [show IntKind.i64.wrap (x.p.ack - x.l.base) = x.p.ack - x.l.base from hw] at e5
    cbv
    refine ⟨fun e => ?_, fun e => ?_⟩
    · have e : ltB 256 (x.p.data.length : Int) = true := e.out
      cbv
      exact ⟨.bc (by simp [accB, e])⟩
    have e6 : ltB 256 (x.p.data.length : Int) = false := e.out
    cbv
    obtain ⟨n, hn⟩ : ∃ n : Int, n = (x.p.data.length : Int) := ⟨_, rfl⟩
    refine ⟨⟨x.l.key, x.p.data, x.p.seq, x.p.ack, n⟩, ⟨by cbv; rw [hn]; ((repeat' first | exact LeL.nil | exact Le.refl _ | refine LeL.cons ?_ ?_ | exact Le.ic rfl | exact Le.bc rfl | exact Le.i rfl | exact Le.b rfl | exact Le.sl rfl | exact Le.nils rfl (fun _ => ⟨trivial, trivial⟩) | refine Le.lst rfl (fun _ _ => rfl) (fun _ => ⟨trivial, trivial⟩) ?_ | refine Le.lst rfl (fun _ _ => rfl) (fun _ => ⟨fun _ => ⟨trivial, trivial⟩, trivial⟩) ?_ | exact Le.nils rfl (fun _ => ⟨fun _ => ⟨trivial, trivial⟩, trivial⟩) | refine Le.agg ?_ | refine Le.tup ?_ | exact Le.any _)), hd, rfl⟩, ?_⟩
    cbv
    exact ⟨.b (by rw [hn]; simp only [accB, Pk.tag]; rw [e1, h2, e4, e5, e6]; rfl)⟩

/-- What an accepted packet does to a link. -/
def recA (l : Lk) (p : Pk) : Lk := if l.base < p.ack then { l with out := l.out.drop (p.ack - l.base).toNat, base := p.ack } else l
def recB (l : Lk) (p : Pk) : Lk := if p.seq = l.got ∧ l.ins.length < 64 ∧ l.got < 1000000000 then { l with ins := l.ins ++ [p.data], got := l.got + 1 } else l
def recv (l : Lk) (p : Pk) : Lk := recB (recA l p) p
theorem recA_yes {l : Lk} {p : Pk} (h : l.base < p.ack) : recA l p = { l with out := l.out.drop (p.ack - l.base).toNat, base := p.ack } := if_pos h
theorem recA_no {l : Lk} {p : Pk} (h : ¬ l.base < p.ack) : recA l p = l := if_neg h
theorem recA_got (l : Lk) (p : Pk) : (recA l p).got = l.got ∧ (recA l p).ins = l.ins := by unfold recA; split <;> exact ⟨rfl, rfl⟩
theorem recv_no {l : Lk} {p : Pk} {A : Lk} (hA : recA l p = A) (h : ¬ (p.seq = l.got ∧ l.ins.length < 64 ∧ l.got < 1000000000)) : recv l p = A := by
  have := recA_got l p
  unfold recv recB
  rw [this.1, this.2, if_neg h, hA]
theorem recv_yes {l : Lk} {p : Pk} {A : Lk} (hA : recA l p = A) (h : p.seq = l.got ∧ l.ins.length < 64 ∧ l.got < 1000000000) : recv l p = { A with ins := l.ins ++ [p.data], got := l.got + 1 } := by
  have := recA_got l p
  unfold recv recB
  rw [this.1, this.2, if_pos h, hA]
noncomputable def recL (l : Lk) (p : Pk) : Lk := if accB l p then recv l p else Lk0
noncomputable def recE (l : Lk) (p : Pk) : Int := if accB l p then 0 else 500
theorem rec_bad {l : Lk} {p : Pk} (h : accB l p = false) : recL l p = Lk0 ∧ recE l p = 500 := by simp [recL, recE, h]
theorem rec_good {l : Lk} {p : Pk} (h : accB l p = true) : recL l p = recv l p ∧ recE l p = 0 := by simp [recL, recE, h]
structure AccOk (l : Lk) (p : Pk) : Prop where
  s : -1 ≤ p.seq
  a : 0 ≤ p.ack
  o : p.ack - l.base ≤ (l.out.length : Int)
  d : p.data.length ≤ 256
  e : p.seq < 0 → p.data = []
  c : p.check = p.tag l.key
theorem accB_ok {l : Lk} {p : Pk} (h : accB l p = true) : AccOk l p := by
  simp only [accB, Bool.and_eq_true, Bool.not_eq_true', ltB, eqB, decide_eq_false_iff_not, Bool.and_eq_false_iff, beq_iff_eq] at h
  obtain ⟨⟨⟨⟨⟨h1, h2⟩, h3⟩, h4⟩, h5⟩, h6⟩ := h
  refine ⟨by omega, by omega, by omega, by omega, fun hs => ?_, h6⟩
  rcases h2 with h2 | h2
  · omega
  · exact List.eq_nil_of_length_eq_zero (by omega)
theorem accB_of {l : Lk} {p : Pk} (h : AccOk l p) : accB l p = true := by
  obtain ⟨h1, h2, h3, h4, h5, h6⟩ := h
  simp only [accB, Bool.and_eq_true, Bool.not_eq_true', ltB, eqB, decide_eq_false_iff_not, Bool.and_eq_false_iff, beq_iff_eq]
  refine ⟨⟨⟨⟨⟨by omega, ?_⟩, by omega⟩, by omega⟩, by omega⟩, h6⟩
  by_cases hs : p.seq < 0
  · right; rw [h5 hs]; simp
  · left; exact hs

noncomputable def sp14 : List (Nat × Vc.Spec) := (56, acceptedS) :: (23, sentS) :: (18, TakeInS) :: sp13
theorem sp14_ok : All (fun f S => SpecOk (PP ()) f S) sp14 := ⟨accepted_ok, sent_ok, taken_ok, sp13_ok⟩
noncomputable def ctx14 : Ctx := { tt := tt, el := el, sp := fun f => tab sp14 f, inl := fun f => tab inl3 f }
theorem ctx14_ok : ctx14.Ok (PP ()) := ⟨tt_ok, el_ok ctx14 rfl, tab_all sp14_ok, fun f fn h => (tab_all inl3_ok f fn h).1, mixed⟩
theorem ctx14_inl : InlOk ctx14 := fun f fn h => (tab_all inl3_ok f fn h).2
noncomputable def ReceiveS : Vc.Spec where
  α := LP
  args x := [.agg (Lk.cells fun _ => x.l), .agg (Pk.cells fun _ => x.p)]
  pre x := x.Ok
  res x := .tup [.agg (Lk.cells fun _ => recL x.l x.p), .i .i64 (fun _ => recE x.l x.p)]
theorem Receive_ok : SpecOk (PP ()) 44 ReceiveS := by
  refine spec_of_vc (lv := 3) ctx14_ok ctx14_inl (fnOk_of Try.func44 (by kernel_rfl)) (by kernel_rfl) (fun a => ⟨Lk.lf fun _ => a.l, Pk.lf fun _ => a.p, trivial⟩) (fun a => ⟨Lk.lf fun _ => recL a.l a.p, trivial, trivial⟩) ?_
  intro x hx
  have hx : x.Ok := hx
  have n1 := hx.o.n
  have n2 := hx.i.n
  refine ⟨?_⟩
  cbv
  refine ⟨x, ⟨by ((repeat' first | exact LeL.nil | exact Le.refl _ | refine LeL.cons ?_ ?_ | exact Le.ic rfl | exact Le.bc rfl | exact Le.i rfl | exact Le.b rfl | exact Le.sl rfl | exact Le.nils rfl (fun _ => ⟨trivial, trivial⟩) | refine Le.lst rfl (fun _ _ => rfl) (fun _ => ⟨trivial, trivial⟩) ?_ | refine Le.lst rfl (fun _ _ => rfl) (fun _ => ⟨fun _ => ⟨trivial, trivial⟩, trivial⟩) ?_ | exact Le.nils rfl (fun _ => ⟨fun _ => ⟨trivial, trivial⟩, trivial⟩) | refine Le.agg ?_ | refine Le.tup ?_ | exact Le.any _)), hx⟩, ?_⟩
  cbv
  refine ⟨fun e => ?_, fun e => ?_⟩
  · have e : (!(accB x.l x.p)) = true := e.out
    have e12 := rec_bad (l := x.l) (p := x.p) (by simpa using e)
    have e1 := e12.1
    have e2 := e12.2
    cbv
    rw [e1, e2]
    refine ⟨.tup ?_⟩
    ((repeat' first | exact LeL.nil | exact Le.refl _ | refine LeL.cons ?_ ?_ | exact Le.ic rfl | exact Le.bc rfl | exact Le.i rfl | exact Le.b rfl | exact Le.sl rfl | exact Le.nils rfl (fun _ => ⟨trivial, trivial⟩) | refine Le.lst rfl (fun _ _ => rfl) (fun _ => ⟨trivial, trivial⟩) ?_ | refine Le.lst rfl (fun _ _ => rfl) (fun _ => ⟨fun _ => ⟨trivial, trivial⟩, trivial⟩) ?_ | exact Le.nils rfl (fun _ => ⟨fun _ => ⟨trivial, trivial⟩, trivial⟩) | refine Le.agg ?_ | refine Le.tup ?_ | exact Le.any _))
  have e : (!(accB x.l x.p)) = false := e.out
  have ha : accB x.l x.p = true := by simpa using e
  have e12 := rec_good ha
  have e1 := e12.1
  have e2 := e12.2
  have hk := accB_ok ha
  have hw : IntKind.i64.wrap (x.p.ack - x.l.base) = x.p.ack - x.l.base := w64 (by have := hx.b1; have := hk.a; omega) (by have := hx.b; have := hx.a; omega)
  cbv
  refine ⟨⟨mk24 n1⟩, ⟨mk24 n2⟩, x.l.out, ⟨.sl rfl⟩, ?_⟩
  cbv
  refine ⟨x.l.ins, ⟨.sl rfl⟩, ?_⟩
  cbv
  -- the closure
  refine ⟨fun e => ?_, fun e => ?_⟩
  · have e : ltB 0 (IntKind.i64.wrap (x.p.ack - x.l.base)) = true := e.out
    rw [show IntKind.i64.wrap (x.p.ack - x.l.base) = x.p.ack - x.l.base from hw] at e
    have hlt : x.l.base < x.p.ack := by simp [ltB] at e; omega
    have hA := recA_yes (l := x.l) (p := x.p) hlt
    have hbd : (0 : Int) ≤ IntKind.i64.wrap (x.p.ack - x.l.base) ∧ IntKind.i64.wrap (x.p.ack - x.l.base) ≤ ((cpy x.l.out).length : Int) ∧ ((cpy x.l.out).length : Int) ≤ ((cpy x.l.out).length : Int) := by rw [hw, cpy_eq]; have := hk.o; omega
    have hdrop : ((cpy x.l.out).take ((cpy x.l.out).length : Int).toNat).drop (IntKind.i64.wrap (x.p.ack - x.l.base)).toNat = x.l.out.drop (x.p.ack - x.l.base).toNat := by rw [hw, cpy_eq]; simp
    cbv
    refine ⟨⟨hbd⟩, ?_⟩
    cbv
    refine ⟨fun e => ?_, fun e => ?_⟩
    rotate_left
    · have e : eqB x.p.seq x.l.got = false := e.out
      have hrec := recv_no (l := x.l) (p := x.p) hA (fun h => by simp [eqB] at e; exact e h.1)
      cbv
      rw [e1, e2, hrec]
      refine ⟨.tup ?_⟩
      ((repeat' first | exact LeL.nil | exact Le.refl _ | refine LeL.cons ?_ ?_ | exact Le.ic rfl | exact Le.bc rfl | exact Le.i rfl | exact Le.b rfl | exact Le.sl rfl | exact Le.nils rfl (fun _ => ⟨trivial, trivial⟩) | refine Le.lst rfl (fun _ _ => rfl) (fun _ => ⟨trivial, trivial⟩) ?_ | refine Le.lst rfl (fun _ _ => rfl) (fun _ => ⟨fun _ => ⟨trivial, trivial⟩, trivial⟩) ?_ | exact Le.nils rfl (fun _ => ⟨fun _ => ⟨trivial, trivial⟩, trivial⟩) | refine Le.agg ?_ | refine Le.tup ?_ | exact Le.any _)) <;> first | exact .sl hdrop | exact .i hg | exact .sl (by simp)
    have e3 : eqB x.p.seq x.l.got = true := e.out
    cbv
    refine ⟨fun e => ?_, fun e => ?_⟩
    rotate_left
    · have e : ltB ((cpy x.l.ins).length : Int) 64 = false := e.out
      rw [cpy_eq] at e
      have hrec := recv_no (l := x.l) (p := x.p) hA (fun h => by have := h.2.1; simp [ltB] at e; omega)
      cbv
      rw [e1, e2, hrec]
      refine ⟨.tup ?_⟩
      ((repeat' first | exact LeL.nil | exact Le.refl _ | refine LeL.cons ?_ ?_ | exact Le.ic rfl | exact Le.bc rfl | exact Le.i rfl | exact Le.b rfl | exact Le.sl rfl | exact Le.nils rfl (fun _ => ⟨trivial, trivial⟩) | refine Le.lst rfl (fun _ _ => rfl) (fun _ => ⟨trivial, trivial⟩) ?_ | refine Le.lst rfl (fun _ _ => rfl) (fun _ => ⟨fun _ => ⟨trivial, trivial⟩, trivial⟩) ?_ | exact Le.nils rfl (fun _ => ⟨fun _ => ⟨trivial, trivial⟩, trivial⟩) | refine Le.agg ?_ | refine Le.tup ?_ | exact Le.any _)) <;> first | exact .sl hdrop | exact .i hg | exact .sl (by simp)
    have e4 : ltB ((cpy x.l.ins).length : Int) 64 = true := e.out
    rw [cpy_eq] at e4
    cbv
    refine ⟨fun e => ?_, fun e => ?_⟩
    rotate_left
    · have e : ltB x.l.got 1000000000 = false := e.out
      have hrec := recv_no (l := x.l) (p := x.p) hA (fun h => by have := h.2.2; simp [ltB] at e; omega)
      cbv
      rw [e1, e2, hrec]
      refine ⟨.tup ?_⟩
      ((repeat' first | exact LeL.nil | exact Le.refl _ | refine LeL.cons ?_ ?_ | exact Le.ic rfl | exact Le.bc rfl | exact Le.i rfl | exact Le.b rfl | exact Le.sl rfl | exact Le.nils rfl (fun _ => ⟨trivial, trivial⟩) | refine Le.lst rfl (fun _ _ => rfl) (fun _ => ⟨trivial, trivial⟩) ?_ | refine Le.lst rfl (fun _ _ => rfl) (fun _ => ⟨fun _ => ⟨trivial, trivial⟩, trivial⟩) ?_ | exact Le.nils rfl (fun _ => ⟨fun _ => ⟨trivial, trivial⟩, trivial⟩) | refine Le.agg ?_ | refine Le.tup ?_ | exact Le.any _)) <;> first | exact .sl hdrop | exact .i hg | exact .sl (by simp)
    have e5 : ltB x.l.got 1000000000 = true := e.out
    have hrec := recv_yes (l := x.l) (p := x.p) hA (by simp only [eqB, ltB, beq_iff_eq, decide_eq_true_eq] at e3 e4 e5; exact ⟨e3, by ((try simp only [Go.Vc.natc] at *); omega), e5⟩)
    have hg : IntKind.i64.wrap (x.l.got + 1) = x.l.got + 1 := w64 (by have := hx.g; omega) (by have := hx.g1; omega)
    cbv
    refine ⟨x.p.data, ⟨by ((repeat' first | exact LeL.nil | exact Le.refl _ | refine LeL.cons ?_ ?_ | exact Le.ic rfl | exact Le.bc rfl | exact Le.i rfl | exact Le.b rfl | exact Le.sl rfl | exact Le.nils rfl (fun _ => ⟨trivial, trivial⟩) | refine Le.lst rfl (fun _ _ => rfl) (fun _ => ⟨trivial, trivial⟩) ?_ | refine Le.lst rfl (fun _ _ => rfl) (fun _ => ⟨fun _ => ⟨trivial, trivial⟩, trivial⟩) ?_ | exact Le.nils rfl (fun _ => ⟨fun _ => ⟨trivial, trivial⟩, trivial⟩) | refine Le.agg ?_ | refine Le.tup ?_ | exact Le.any _)), by show x.p.data.length ≤ _; have := hx.d; omega⟩, ?_⟩
    cbv
    refine ⟨[x.p.data], ⟨by cbv; ((repeat' first | exact LeL.nil | exact Le.refl _ | refine LeL.cons ?_ ?_ | exact Le.ic rfl | exact Le.bc rfl | exact Le.i rfl | exact Le.b rfl | exact Le.sl rfl | exact Le.nils rfl (fun _ => ⟨trivial, trivial⟩) | refine Le.lst rfl (fun _ _ => rfl) (fun _ => ⟨trivial, trivial⟩) ?_ | refine Le.lst rfl (fun _ _ => rfl) (fun _ => ⟨fun _ => ⟨trivial, trivial⟩, trivial⟩) ?_ | exact Le.nils rfl (fun _ => ⟨fun _ => ⟨trivial, trivial⟩, trivial⟩) | refine Le.agg ?_ | refine Le.tup ?_ | exact Le.any _)), copied1 n2⟩, ?_⟩
    cbv
    rw [e1, e2, hrec]
    refine ⟨.tup ?_⟩
    ((repeat' first | exact LeL.nil | exact Le.refl _ | refine LeL.cons ?_ ?_ | exact Le.ic rfl | exact Le.bc rfl | exact Le.i rfl | exact Le.b rfl | exact Le.sl rfl | exact Le.nils rfl (fun _ => ⟨trivial, trivial⟩) | refine Le.lst rfl (fun _ _ => rfl) (fun _ => ⟨trivial, trivial⟩) ?_ | refine Le.lst rfl (fun _ _ => rfl) (fun _ => ⟨fun _ => ⟨trivial, trivial⟩, trivial⟩) ?_ | exact Le.nils rfl (fun _ => ⟨fun _ => ⟨trivial, trivial⟩, trivial⟩) | refine Le.agg ?_ | refine Le.tup ?_ | exact Le.any _)) <;> first | exact .sl hdrop | exact .i hg | exact .sl (by simp)
  · have e : ltB 0 (IntKind.i64.wrap (x.p.ack - x.l.base)) = false := e.out
    rw [show IntKind.i64.wrap (x.p.ack - x.l.base) = x.p.ack - x.l.base from hw] at e
    have hlt : ¬ x.l.base < x.p.ack := by simp [ltB] at e; omega
    have hA := recA_no (l := x.l) (p := x.p) hlt
    cbv
    refine ⟨fun e => ?_, fun e => ?_⟩
    rotate_left
    · have e : eqB x.p.seq x.l.got = false := e.out
      have hrec := recv_no (l := x.l) (p := x.p) hA (fun h => by simp [eqB] at e; exact e h.1)
      cbv
      rw [e1, e2, hrec]
      refine ⟨.tup ?_⟩
      ((repeat' first | exact LeL.nil | exact Le.refl _ | refine LeL.cons ?_ ?_ | exact Le.ic rfl | exact Le.bc rfl | exact Le.i rfl | exact Le.b rfl | exact Le.sl rfl | exact Le.nils rfl (fun _ => ⟨trivial, trivial⟩) | refine Le.lst rfl (fun _ _ => rfl) (fun _ => ⟨trivial, trivial⟩) ?_ | refine Le.lst rfl (fun _ _ => rfl) (fun _ => ⟨fun _ => ⟨trivial, trivial⟩, trivial⟩) ?_ | exact Le.nils rfl (fun _ => ⟨fun _ => ⟨trivial, trivial⟩, trivial⟩) | refine Le.agg ?_ | refine Le.tup ?_ | exact Le.any _)) <;> first | exact .sl hdrop | exact .i hg | exact .sl (by simp)
    have e3 : eqB x.p.seq x.l.got = true := e.out
    cbv
    refine ⟨fun e => ?_, fun e => ?_⟩
    rotate_left
    · have e : ltB ((cpy x.l.ins).length : Int) 64 = false := e.out
      rw [cpy_eq] at e
      have hrec := recv_no (l := x.l) (p := x.p) hA (fun h => by have := h.2.1; simp [ltB] at e; omega)
      cbv
      rw [e1, e2, hrec]
      refine ⟨.tup ?_⟩
      ((repeat' first | exact LeL.nil | exact Le.refl _ | refine LeL.cons ?_ ?_ | exact Le.ic rfl | exact Le.bc rfl | exact Le.i rfl | exact Le.b rfl | exact Le.sl rfl | exact Le.nils rfl (fun _ => ⟨trivial, trivial⟩) | refine Le.lst rfl (fun _ _ => rfl) (fun _ => ⟨trivial, trivial⟩) ?_ | refine Le.lst rfl (fun _ _ => rfl) (fun _ => ⟨fun _ => ⟨trivial, trivial⟩, trivial⟩) ?_ | exact Le.nils rfl (fun _ => ⟨fun _ => ⟨trivial, trivial⟩, trivial⟩) | refine Le.agg ?_ | refine Le.tup ?_ | exact Le.any _)) <;> first | exact .sl hdrop | exact .i hg | exact .sl (by simp)
    have e4 : ltB ((cpy x.l.ins).length : Int) 64 = true := e.out
    rw [cpy_eq] at e4
    cbv
    refine ⟨fun e => ?_, fun e => ?_⟩
    rotate_left
    · have e : ltB x.l.got 1000000000 = false := e.out
      have hrec := recv_no (l := x.l) (p := x.p) hA (fun h => by have := h.2.2; simp [ltB] at e; omega)
      cbv
      rw [e1, e2, hrec]
      refine ⟨.tup ?_⟩
      ((repeat' first | exact LeL.nil | exact Le.refl _ | refine LeL.cons ?_ ?_ | exact Le.ic rfl | exact Le.bc rfl | exact Le.i rfl | exact Le.b rfl | exact Le.sl rfl | exact Le.nils rfl (fun _ => ⟨trivial, trivial⟩) | refine Le.lst rfl (fun _ _ => rfl) (fun _ => ⟨trivial, trivial⟩) ?_ | refine Le.lst rfl (fun _ _ => rfl) (fun _ => ⟨fun _ => ⟨trivial, trivial⟩, trivial⟩) ?_ | exact Le.nils rfl (fun _ => ⟨fun _ => ⟨trivial, trivial⟩, trivial⟩) | refine Le.agg ?_ | refine Le.tup ?_ | exact Le.any _)) <;> first | exact .sl hdrop | exact .i hg | exact .sl (by simp)
    have e5 : ltB x.l.got 1000000000 = true := e.out
    have hrec := recv_yes (l := x.l) (p := x.p) hA (by simp only [eqB, ltB, beq_iff_eq, decide_eq_true_eq] at e3 e4 e5; exact ⟨e3, by ((try simp only [Go.Vc.natc] at *); omega), e5⟩)
    have hg : IntKind.i64.wrap (x.l.got + 1) = x.l.got + 1 := w64 (by have := hx.g; omega) (by have := hx.g1; omega)
    cbv
    refine ⟨x.p.data, ⟨by ((repeat' first | exact LeL.nil | exact Le.refl _ | refine LeL.cons ?_ ?_ | exact Le.ic rfl | exact Le.bc rfl | exact Le.i rfl | exact Le.b rfl | exact Le.sl rfl | exact Le.nils rfl (fun _ => ⟨trivial, trivial⟩) | refine Le.lst rfl (fun _ _ => rfl) (fun _ => ⟨trivial, trivial⟩) ?_ | refine Le.lst rfl (fun _ _ => rfl) (fun _ => ⟨fun _ => ⟨trivial, trivial⟩, trivial⟩) ?_ | exact Le.nils rfl (fun _ => ⟨fun _ => ⟨trivial, trivial⟩, trivial⟩) | refine Le.agg ?_ | refine Le.tup ?_ | exact Le.any _)), by show x.p.data.length ≤ _; have := hx.d; omega⟩, ?_⟩
    cbv
    refine ⟨[x.p.data], ⟨by cbv; ((repeat' first | exact LeL.nil | exact Le.refl _ | refine LeL.cons ?_ ?_ | exact Le.ic rfl | exact Le.bc rfl | exact Le.i rfl | exact Le.b rfl | exact Le.sl rfl | exact Le.nils rfl (fun _ => ⟨trivial, trivial⟩) | refine Le.lst rfl (fun _ _ => rfl) (fun _ => ⟨trivial, trivial⟩) ?_ | refine Le.lst rfl (fun _ _ => rfl) (fun _ => ⟨fun _ => ⟨trivial, trivial⟩, trivial⟩) ?_ | exact Le.nils rfl (fun _ => ⟨fun _ => ⟨trivial, trivial⟩, trivial⟩) | refine Le.agg ?_ | refine Le.tup ?_ | exact Le.any _)), copied1 n2⟩, ?_⟩
    cbv
    rw [e1, e2, hrec]
    refine ⟨.tup ?_⟩
    ((repeat' first | exact LeL.nil | exact Le.refl _ | refine LeL.cons ?_ ?_ | exact Le.ic rfl | exact Le.bc rfl | exact Le.i rfl | exact Le.b rfl | exact Le.sl rfl | exact Le.nils rfl (fun _ => ⟨trivial, trivial⟩) | refine Le.lst rfl (fun _ _ => rfl) (fun _ => ⟨trivial, trivial⟩) ?_ | refine Le.lst rfl (fun _ _ => rfl) (fun _ => ⟨fun _ => ⟨trivial, trivial⟩, trivial⟩) ?_ | exact Le.nils rfl (fun _ => ⟨fun _ => ⟨trivial, trivial⟩, trivial⟩) | refine Le.agg ?_ | refine Le.tup ?_ | exact Le.any _)) <;> first | exact .sl hdrop | exact .i hg | exact .sl (by simp)
end Go.Proofs.Tran
