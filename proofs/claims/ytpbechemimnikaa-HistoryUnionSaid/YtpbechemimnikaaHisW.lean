/-
  The histories' functions: a commit is added, the law
-/
import Derived.Test.YtpbechemimnikaaHisV
set_option linter.unusedVariables false
set_option linter.unusedSimpArgs false
set_option maxRecDepth 10000
set_option maxHeartbeats 32000000
namespace Go.Proofs.Hist
open Go Go.Vc

variable {h : List Cm}
theorem Good.par_has (G : Good dgW h) : ∀ c ∈ h, ∀ p ∈ c.par, has h p = true := by
  induction G with
  | nil => intro c hc; cases hc
  | snoc G h1 h2 h3 h4 h5 ih =>
    intro c hc p hp
    rw [has_snoc]
    rcases List.mem_append.1 hc with hc | hc
    · rw [ih c hc p hp]; rfl
    · simp at hc; subst hc; rw [h2 p hp]; rfl
theorem Good.isA_mem (G : Good dgW h) : ∀ c ∈ h, ∀ a, isA h a c.id = (a == c.id || c.par.any fun p => isA h a p) := by
  induction G with
  | nil => intro c hc; cases hc
  | snoc G h1 h2 h3 h4 h5 ih =>
    rename_i g d
    intro c hc a
    have old : ∀ l : List Int, (∀ p ∈ l, has g p = true) → (l.any fun p => isA (g ++ [d]) a p) = l.any fun p => isA g a p := by
      intro l hl
      induction l with
      | nil => rfl
      | cons p r ihr =>
        simp only [List.any_cons]
        rw [ihr fun q hq => hl q (by simp [hq]), isA_old]
        rintro rfl
        have := hl _ (List.mem_cons_self ..)
        rw [h1] at this
        cases this
    rcases List.mem_append.1 hc with hc | hc
    · have hne : c.id ≠ d.id := by
        intro e
        have : has g d.id = true := has_iff.2 ⟨c, hc, e⟩
        rw [h1] at this
        cases this
      rw [isA_old hne, ih c hc, old c.par (G.par_has c hc)]
    · simp at hc
      subst hc
      rw [isA_snoc, if_pos rfl, old c.par h2]
structure GrowF (h : List Cm) (c : Cm) (A : Ad) (o : Cm) : Prop where
  g : Good dgW A.h
  ok : okC A.h = 0
  l1 : h.length ≤ A.h.length
  l2 : A.h.length ≤ h.length + 1
  top : A.h.take h.length = h
  ix : 0 ≤ idx A.h A.i
  at_ : A.h[(idx A.h A.i).toNat]? = some o
  old : o ≠ { c with id := A.i } → A.h = h
  anc : ∀ x, x ≠ A.i → ancS A.h x = ancS h x
  up : o = { c with id := A.i } → ∀ x, isA A.h x A.i = ((x == A.i || c.par.any fun p => isA A.h x p) && has A.h x)
  self : isA A.h A.i A.i = true
  again : addM dgW A.h { c with id := A.i } = ⟨A.h, A.i, 0⟩
theorem growF (G : Good dgW h) {c : Cm} {A : Ad} (hA : A = addM dgW h c) (he : A.e = 0) : ∃ o, GrowF h c A o := by
  have a := add_good noId G (c := c) (by rw [← hA]; exact he)
  rw [← hA] at a
  obtain ⟨g, hi, hh, hc⟩ := a
  rw [← hi] at hh hc
  obtain ⟨o, ho, hoi⟩ := idx_get hh
  have hf : fine c.par = true ∧ c.par.all (has h) = true := by
    cases e1 : fine c.par with
    | false => rw [hA, addM_arg e1] at he; cases he
    | true =>
      refine ⟨rfl, ?_⟩
      cases e2 : c.par.all (has h) with
      | false => rw [hA, addM_none e1 e2] at he; cases he
      | true => rfl
  have hd : dgW { c with id := A.i } = A.i := by rw [hi]; exact noId c _
  refine ⟨o, g, okC_yes ((okH_good _).2 g), ?_, ?_, ?_, (has_lt hh).1, ho, ?_, ?_, ?_, g.refl hh, ?_⟩
  · rcases hc with e | ⟨e, _⟩ <;> rw [e] <;> simp
  · rcases hc with e | ⟨e, _⟩ <;> rw [e] <;> simp
  · rcases hc with e | ⟨e, _⟩ <;> rw [e] <;> simp
  · intro hne
    rcases hc with e | ⟨e, hno⟩
    · exact e
    · exfalso
      apply hne
      have h1 := idx_snoc_new (h := h) (c := { c with id := A.i }) hno
      rw [e, h1] at ho
      simp at ho
      exact ho.symm
  · intro x hx
    rcases hc with e | ⟨e, hno⟩
    · rw [e]
    · rw [e]
      have g2 : Good dgW (h ++ [{ c with id := A.i }]) := by rw [← e]; exact g
      cases hq : has h x with
      | true =>
        rw [ancS_yes G hq, ancS_yes g2 (by rw [has_snoc, hq]; rfl), anc_old G hno hx]
      | false =>
        rw [ancS_no G hq, ancS_no g2 (by rw [has_snoc, hq]; simp; exact fun q => hx q.symm)]
  · intro e x
    have hm := List.mem_of_getElem? ho
    have h1 := g.isA_mem o hm x
    rw [e] at h1
    have h1 : isA A.h x A.i = (x == A.i || c.par.any fun p => isA A.h x p) := h1
    rw [h1]
    cases q : (x == A.i || c.par.any fun p => isA A.h x p) with
    | false => rfl
    | true =>
      rw [← h1] at q
      rw [(g.is_has q).1]; rfl
  · refine (addM_old hf.1 ?_ (by show has A.h (dgW c) = true; rw [← hi]; exact hh)).trans (by show (⟨A.h, dgW c, 0⟩ : Ad) = _; rw [← hi])
    refine List.all_eq_true.2 fun p hp => ?_
    have := List.all_eq_true.1 hf.2 p hp
    rcases hc with e | ⟨e, _⟩ <;> rw [e]
    · exact this
    · rw [has_snoc, this]; rfl
theorem growE (G : Good dgW h) (hn : h.length ≤ 16) {c : Cm} {A : Ad} (hA : A = addM dgW h c) (he : A.e ≠ 0) : (A.e = 1 ∨ A.e = 4) ∧ 0 < c.par.length ∧ A.h = [] := by
  have hp : (fine c.par = true ∧ c.par.all (has h) = true) ∨ 0 < c.par.length := by
    cases q : c.par with
    | nil => exact .inl ⟨rfl, rfl⟩
    | cons p r => right; simp
  cases e1 : fine c.par with
  | false => rw [hA, addM_arg e1]; exact ⟨.inl rfl, hp.resolve_left (by rw [e1]; simp), rfl⟩
  | true =>
    cases e2 : c.par.all (has h) with
    | false => rw [hA, addM_none e1 e2]; exact ⟨.inr rfl, hp.resolve_left (by rw [e2]; simp), rfl⟩
    | true =>
      exfalso
      apply he
      cases e3 : has h (dgW c) with
      | true => rw [hA, addM_old e1 e2 e3]
      | false => rw [hA, addM_new e1 e2 e3 (by omega)]

noncomputable def ctx23c : Ctx := { ctx23 with cut := fun r => Nat.beq r 12 }
theorem ctx23c_ok : ctx23c.Ok (PP ()) := ⟨tt_ok, el_ok ctx23c rfl, tab_all sp23_ok, fun f fn h => (tab_all inl2_ok f fn h).1, mixed⟩
theorem ctx23c_inl : InlOk ctx23c := fun f fn h => (tab_all inl2_ok f fn h).2
theorem satTo {S : List SV} {r : Bool} {P : Unit → Program} {c : Code} {s : Vc.St} {k : Exit → Vc.St → Prop} (n : Nat) (s' : Vc.St) (h0 : LeT (s.cut n).t s'.t) (h0' : LeB (s.cut n).b s'.b)
    (h : Sat S r P c s' k) (hn : hasL (Nat.ble n) S = false := by rfl) : Sat S r P c s k := ⟨fun F R f η H a w hS D => h.out F R f η H a w hS ((D.cut n (by rw [hS]; exact hn)).weaken ⟨h0, h0'⟩)⟩
/-- A part of a proof that several branches share: the code and what is behind it are found where it is used first. -/
theorem withTail {G : Prop} (T : Code → (Exit → Vc.St → Prop) → Prop) {c : Code} {k : Exit → Vc.St → Prop} (main : T c k → G) (tail : T c k) : G := main tail
theorem ancS_len (hl : h.length < 2305843009213693952) (b : Int) : (ancS h b).1.length < 2305843009213693952 := by
  unfold ancS
  split
  · simp
  · have h1 := List.length_filter_le (α := Int) (by assumption) (ids h)
    have h2 : (ids h).length = h.length := by simp [ids]
    simp only
    omega
theorem u8_range (n : Int) : 0 ≤ IntKind.u8.wrap n ∧ IntKind.u8.wrap n < 256 := by
  simp only [IntKind.wrap, IntKind.bits, IntKind.signed]
  simp
  omega
structure LK3C where
  l : List B4
  a : Int
  b : Int
  c : Int
  w : Cm
structure LK3Cok (x : LK3C) : Prop where
  l : ∀ b ∈ x.l, B4.ok b
  a : 0 ≤ x.a ∧ x.a < 256
  b : 0 ≤ x.b ∧ x.b < 256
  c : 0 ≤ x.c ∧ x.c < 256
def grwT (x : LK3C) (h : List Cm) (pars : List Int) : Vc.St :=
  ⟨[.sl 4 cB4 (fun _ => x.l), .agg [.i .u8 (fun _ => x.a), .i .u8 (fun _ => x.b), .i .u8 (fun _ => x.c)], .agg (Cm.cells fun _ => x.w), .any, .ptr 0 0, .ptr 1 0, .bc false, .bc true, .sl 4 cCm (fun _ => h)] ++ anys 231,
    [.fix 23 [.i .u8 (fun _ => x.a), .i .u8 (fun _ => x.b), .i .u8 (fun _ => x.c)], .fix 43 [.i .u64 (fun _ => x.w.id), .sl 1 cU64 (fun _ => pars), .i .u64 (fun _ => x.w.tree), .i .i64 (fun _ => x.w.no)]]⟩
def grwS : Vc.Spec where
  α := LK3C
  args x := [.sl 4 cB4 (fun _ => x.l), .agg [.i .u8 (fun _ => x.a), .i .u8 (fun _ => x.b), .i .u8 (fun _ => x.c)], .agg (Cm.cells fun _ => x.w)]
  pre x := LK3Cok x
  res x := .bc true
theorem Grw_ok : SpecOk (PP ()) 6 grwS := by
  refine spec_of_vc (lv := 2) ctx23c_ok ctx23c_inl (fnOk_of Try.func6 (by kernel_rfl)) (by kernel_rfl) (fun a => by simp [grwS, LFL, LF, cU64, cCm, Cm.cells, cB4]) (fun a => by simp [grwS, LFL, LF, cU64, cCm, Cm.cells, cB4]) ?_
  intro x hx
  have hl0 : ∀ b ∈ x.l, B4.ok b := hx.l
  have kc := hx.c
  refine ⟨?_⟩
  cbv
  refine ⟨(), ⟨by ((repeat' first | exact LeL.nil | exact Le.refl _ | refine LeL.cons ?_ ?_ | exact Le.ic rfl | exact Le.bc rfl | exact Le.i rfl | exact Le.b rfl | exact Le.sl rfl | exact Le.mp rfl | exact Le.csl rfl | exact Le.cslsl rfl | exact Le.nils rfl (fun _ => ⟨trivial, trivial⟩) | refine Le.lst rfl (fun _ _ => rfl) (fun _ => ⟨trivial, trivial⟩) ?_ | refine Le.lst rfl (fun _ _ => rfl) (fun _ => ⟨fun _ => ⟨trivial, trivial⟩, trivial⟩) ?_ | exact Le.nils rfl (fun _ => ⟨fun _ => ⟨trivial, trivial⟩, trivial⟩) | exact Le.nils rfl (fun x => (cCm_ok x).1) | refine Le.lst rfl (fun _ _ => rfl) (fun x => (cCm_ok x).1) ?_ | refine Le.agg ?_ | refine Le.tup ?_ | refine Le.fn ?_ ?_ | refine Le.spt ?_ | exact Le.any _)), trivial⟩, ?_⟩
  cbv
  refine ⟨fun h2 => ?_, fun h2 => ?_⟩
  · cbv
    exact ⟨.refl _⟩
  have h2 := h2.out
  have hlen : x.l.length ≤ 16 := by simp [ltB, leB] at h2; ((try simp only [Go.Vc.natc] at *); omega)
  obtain ⟨hB, G0, hn0, H0⟩ := grown_facts (by omega) hl0
  obtain ⟨h, hh⟩ : ∃ h, h = grown [] x.l := ⟨_, rfl⟩
  rw [← hh] at G0 hn0 H0
  have G := G0
  have H := H0
  have hle : h.length < 2305843009213693952 := by omega
  obtain ⟨qa, hqa⟩ : ∃ q, q = IntKind.u8.wrap (x.a.tdiv 4) := ⟨_, rfl⟩
  obtain ⟨qb, hqb⟩ : ∃ q, q = IntKind.u8.wrap (x.b.tdiv 2) := ⟨_, rfl⟩
  have hqar : 0 ≤ qa ∧ qa < 256 := by rw [hqa]; exact u8_range _
  have hqbr : 0 ≤ qb ∧ qb < 256 := by rw [hqb]; exact u8_range _
  obtain ⟨pa, hpa⟩ : ∃ p, p = pickM h qa := ⟨_, rfl⟩
  obtain ⟨pb, hpb⟩ : ∃ p, p = pickM h qb := ⟨_, rfl⟩
  cbv
  refine ⟨⟨[], x.l⟩, ⟨by ((repeat' first | exact LeL.nil | exact Le.refl _ | refine LeL.cons ?_ ?_ | exact Le.ic rfl | exact Le.bc rfl | exact Le.i rfl | exact Le.b rfl | exact Le.sl rfl | exact Le.mp rfl | exact Le.csl rfl | exact Le.cslsl rfl | exact Le.nils rfl (fun _ => ⟨trivial, trivial⟩) | refine Le.lst rfl (fun _ _ => rfl) (fun _ => ⟨trivial, trivial⟩) ?_ | refine Le.lst rfl (fun _ _ => rfl) (fun _ => ⟨fun _ => ⟨trivial, trivial⟩, trivial⟩) ?_ | exact Le.nils rfl (fun _ => ⟨fun _ => ⟨trivial, trivial⟩, trivial⟩) | exact Le.nils rfl (fun x => (cCm_ok x).1) | refine Le.lst rfl (fun _ _ => rfl) (fun x => (cCm_ok x).1) ?_ | refine Le.agg ?_ | refine Le.tup ?_ | refine Le.fn ?_ ?_ | refine Le.spt ?_ | exact Le.any _)), hB⟩, ?_⟩
  cbv
  refine ⟨⟨by decide⟩, ?_⟩
  cbv
  apply withTail (fun c k => ∀ pars : List Int, pars.length ≤ 2 → Sat [] false PP c (grwT x h pars) k)
  · intro tail
    refine ⟨fun hA => ?_, fun hA => ?_⟩
    · clear hA
      cbv
      refine ⟨⟨by decide⟩, ?_⟩
      cbv
      refine ⟨⟨h, qa⟩, ⟨.cons (.sl hh.symm) (.cons (.i hqa.symm) .nil), ⟨H, hqar.1, hqar.2⟩⟩, ?_⟩
      cbv
      refine ⟨[pa], ⟨.lst rfl (fun _ _ => rfl) (fun y => (cU64_ok y).1) (.cons (.i hpa.symm) .nil), by show 1 * 8 ≤ 140737488355328; omega, by show 1 ≤ 9223372036854775807; omega⟩, ?_⟩
      cbv

      refine ⟨⟨by decide⟩, ?_⟩
      cbv
      refine ⟨fun hA => ?_, fun hA => ?_⟩
      · clear hA
        cbv
        refine ⟨⟨by decide⟩, ?_⟩
        cbv
        refine ⟨⟨h, qb⟩, ⟨.cons (.sl hh.symm) (.cons (.i hqb.symm) .nil), ⟨H, hqbr.1, hqbr.2⟩⟩, ?_⟩
        cbv
        refine ⟨[pb], ⟨.lst rfl (fun _ _ => rfl) (fun y => (cU64_ok y).1) (.cons (.i hpb.symm) .nil), by show 2 * 8 ≤ 140737488355328; omega, by show 2 ≤ 9223372036854775807; omega⟩, ?_⟩
        cbv
        obtain ⟨pars, hpars⟩ : ∃ p : List Int, p = [pa, pb] := ⟨_, rfl⟩
        have hpl : pars.length ≤ 2 := by rw [hpars]; simp
        refine Sat.freeze 5 rfl rfl ?_
        exact satTo 2 (grwT x h pars) (by ((try cbv) <;> (repeat' (first | with_reducible exact trivial | with_reducible refine And.intro ?_ ?_)) <;> (try first | exact SlotLe.refl _ | exact SlotLe.dyn rfl | exact SlotLe.map rfl | exact SlotLe.iter rfl rfl (.inl rfl) | exact SlotLe.iter rfl rfl (.inr rfl) | refine SlotLe.fix ?_ | refine SlotLe.dyn ?_) <;> ((repeat' first | exact LeL.nil | exact Le.refl _ | refine LeL.cons ?_ ?_ | exact Le.ic rfl | exact Le.bc rfl | exact Le.i rfl | exact Le.b rfl | exact Le.sl rfl | exact Le.mp rfl | exact Le.csl rfl | exact Le.cslsl rfl | exact Le.nils rfl (fun _ => ⟨trivial, trivial⟩) | refine Le.lst rfl (fun _ _ => rfl) (fun _ => ⟨trivial, trivial⟩) ?_ | refine Le.lst rfl (fun _ _ => rfl) (fun _ => ⟨fun _ => ⟨trivial, trivial⟩, trivial⟩) ?_ | exact Le.nils rfl (fun _ => ⟨fun _ => ⟨trivial, trivial⟩, trivial⟩) | exact Le.nils rfl (fun x => (cCm_ok x).1) | refine Le.lst rfl (fun _ _ => rfl) (fun x => (cCm_ok x).1) ?_ | refine Le.agg ?_ | refine Le.tup ?_ | refine Le.fn ?_ ?_ | refine Le.spt ?_ | exact Le.any _))) <;> exact .sl hh.symm) (by ((try cbv) <;> (repeat' (first | with_reducible exact trivial | with_reducible refine And.intro ?_ ?_)) <;> (try first | exact SlotLe.refl _ | exact SlotLe.dyn rfl | exact SlotLe.map rfl | exact SlotLe.iter rfl rfl (.inl rfl) | exact SlotLe.iter rfl rfl (.inr rfl) | refine SlotLe.fix ?_ | refine SlotLe.dyn ?_) <;> ((repeat' first | exact LeL.nil | exact Le.refl _ | refine LeL.cons ?_ ?_ | exact Le.ic rfl | exact Le.bc rfl | exact Le.i rfl | exact Le.b rfl | exact Le.sl rfl | exact Le.mp rfl | exact Le.csl rfl | exact Le.cslsl rfl | exact Le.nils rfl (fun _ => ⟨trivial, trivial⟩) | refine Le.lst rfl (fun _ _ => rfl) (fun _ => ⟨trivial, trivial⟩) ?_ | refine Le.lst rfl (fun _ _ => rfl) (fun _ => ⟨fun _ => ⟨trivial, trivial⟩, trivial⟩) ?_ | exact Le.nils rfl (fun _ => ⟨fun _ => ⟨trivial, trivial⟩, trivial⟩) | exact Le.nils rfl (fun x => (cCm_ok x).1) | refine Le.lst rfl (fun _ _ => rfl) (fun x => (cCm_ok x).1) ?_ | refine Le.agg ?_ | refine Le.tup ?_ | refine Le.fn ?_ ?_ | refine Le.spt ?_ | exact Le.any _))) <;> exact .sl hpars.symm) (tail pars hpl)

      · clear hA
        cbv
        obtain ⟨pars, hpars⟩ : ∃ p : List Int, p = [pa] := ⟨_, rfl⟩
        have hpl : pars.length ≤ 2 := by rw [hpars]; simp
        refine Sat.freeze 3 rfl rfl ?_
        exact satTo 2 (grwT x h pars) (by ((try cbv) <;> (repeat' (first | with_reducible exact trivial | with_reducible refine And.intro ?_ ?_)) <;> (try first | exact SlotLe.refl _ | exact SlotLe.dyn rfl | exact SlotLe.map rfl | exact SlotLe.iter rfl rfl (.inl rfl) | exact SlotLe.iter rfl rfl (.inr rfl) | refine SlotLe.fix ?_ | refine SlotLe.dyn ?_) <;> ((repeat' first | exact LeL.nil | exact Le.refl _ | refine LeL.cons ?_ ?_ | exact Le.ic rfl | exact Le.bc rfl | exact Le.i rfl | exact Le.b rfl | exact Le.sl rfl | exact Le.mp rfl | exact Le.csl rfl | exact Le.cslsl rfl | exact Le.nils rfl (fun _ => ⟨trivial, trivial⟩) | refine Le.lst rfl (fun _ _ => rfl) (fun _ => ⟨trivial, trivial⟩) ?_ | refine Le.lst rfl (fun _ _ => rfl) (fun _ => ⟨fun _ => ⟨trivial, trivial⟩, trivial⟩) ?_ | exact Le.nils rfl (fun _ => ⟨fun _ => ⟨trivial, trivial⟩, trivial⟩) | exact Le.nils rfl (fun x => (cCm_ok x).1) | refine Le.lst rfl (fun _ _ => rfl) (fun x => (cCm_ok x).1) ?_ | refine Le.agg ?_ | refine Le.tup ?_ | refine Le.fn ?_ ?_ | refine Le.spt ?_ | exact Le.any _))) <;> exact .sl hh.symm) (by ((try cbv) <;> (repeat' (first | with_reducible exact trivial | with_reducible refine And.intro ?_ ?_)) <;> (try first | exact SlotLe.refl _ | exact SlotLe.dyn rfl | exact SlotLe.map rfl | exact SlotLe.iter rfl rfl (.inl rfl) | exact SlotLe.iter rfl rfl (.inr rfl) | refine SlotLe.fix ?_ | refine SlotLe.dyn ?_) <;> ((repeat' first | exact LeL.nil | exact Le.refl _ | refine LeL.cons ?_ ?_ | exact Le.ic rfl | exact Le.bc rfl | exact Le.i rfl | exact Le.b rfl | exact Le.sl rfl | exact Le.mp rfl | exact Le.csl rfl | exact Le.cslsl rfl | exact Le.nils rfl (fun _ => ⟨trivial, trivial⟩) | refine Le.lst rfl (fun _ _ => rfl) (fun _ => ⟨trivial, trivial⟩) ?_ | refine Le.lst rfl (fun _ _ => rfl) (fun _ => ⟨fun _ => ⟨trivial, trivial⟩, trivial⟩) ?_ | exact Le.nils rfl (fun _ => ⟨fun _ => ⟨trivial, trivial⟩, trivial⟩) | exact Le.nils rfl (fun x => (cCm_ok x).1) | refine Le.lst rfl (fun _ _ => rfl) (fun x => (cCm_ok x).1) ?_ | refine Le.agg ?_ | refine Le.tup ?_ | refine Le.fn ?_ ?_ | refine Le.spt ?_ | exact Le.any _))) <;> exact .sl hpars.symm) (tail pars hpl)

    · clear hA
      cbv
      refine ⟨⟨by decide⟩, ?_⟩
      cbv
      refine ⟨fun hA => ?_, fun hA => ?_⟩
      · clear hA
        cbv
        refine ⟨⟨by decide⟩, ?_⟩
        cbv
        refine ⟨⟨h, qb⟩, ⟨.cons (.sl hh.symm) (.cons (.i hqb.symm) .nil), ⟨H, hqbr.1, hqbr.2⟩⟩, ?_⟩
        cbv
        refine ⟨[pb], ⟨.lst rfl (fun _ _ => rfl) (fun y => (cU64_ok y).1) (.cons (.i hpb.symm) .nil), by show 1 * 8 ≤ 140737488355328; omega, by show 1 ≤ 9223372036854775807; omega⟩, ?_⟩
        cbv
        obtain ⟨pars, hpars⟩ : ∃ p : List Int, p = [pb] := ⟨_, rfl⟩
        have hpl : pars.length ≤ 2 := by rw [hpars]; simp
        refine Sat.freeze 3 rfl rfl ?_
        exact satTo 2 (grwT x h pars) (by ((try cbv) <;> (repeat' (first | with_reducible exact trivial | with_reducible refine And.intro ?_ ?_)) <;> (try first | exact SlotLe.refl _ | exact SlotLe.dyn rfl | exact SlotLe.map rfl | exact SlotLe.iter rfl rfl (.inl rfl) | exact SlotLe.iter rfl rfl (.inr rfl) | refine SlotLe.fix ?_ | refine SlotLe.dyn ?_) <;> ((repeat' first | exact LeL.nil | exact Le.refl _ | refine LeL.cons ?_ ?_ | exact Le.ic rfl | exact Le.bc rfl | exact Le.i rfl | exact Le.b rfl | exact Le.sl rfl | exact Le.mp rfl | exact Le.csl rfl | exact Le.cslsl rfl | exact Le.nils rfl (fun _ => ⟨trivial, trivial⟩) | refine Le.lst rfl (fun _ _ => rfl) (fun _ => ⟨trivial, trivial⟩) ?_ | refine Le.lst rfl (fun _ _ => rfl) (fun _ => ⟨fun _ => ⟨trivial, trivial⟩, trivial⟩) ?_ | exact Le.nils rfl (fun _ => ⟨fun _ => ⟨trivial, trivial⟩, trivial⟩) | exact Le.nils rfl (fun x => (cCm_ok x).1) | refine Le.lst rfl (fun _ _ => rfl) (fun x => (cCm_ok x).1) ?_ | refine Le.agg ?_ | refine Le.tup ?_ | refine Le.fn ?_ ?_ | refine Le.spt ?_ | exact Le.any _))) <;> exact .sl hh.symm) (by ((try cbv) <;> (repeat' (first | with_reducible exact trivial | with_reducible refine And.intro ?_ ?_)) <;> (try first | exact SlotLe.refl _ | exact SlotLe.dyn rfl | exact SlotLe.map rfl | exact SlotLe.iter rfl rfl (.inl rfl) | exact SlotLe.iter rfl rfl (.inr rfl) | refine SlotLe.fix ?_ | refine SlotLe.dyn ?_) <;> ((repeat' first | exact LeL.nil | exact Le.refl _ | refine LeL.cons ?_ ?_ | exact Le.ic rfl | exact Le.bc rfl | exact Le.i rfl | exact Le.b rfl | exact Le.sl rfl | exact Le.mp rfl | exact Le.csl rfl | exact Le.cslsl rfl | exact Le.nils rfl (fun _ => ⟨trivial, trivial⟩) | refine Le.lst rfl (fun _ _ => rfl) (fun _ => ⟨trivial, trivial⟩) ?_ | refine Le.lst rfl (fun _ _ => rfl) (fun _ => ⟨fun _ => ⟨trivial, trivial⟩, trivial⟩) ?_ | exact Le.nils rfl (fun _ => ⟨fun _ => ⟨trivial, trivial⟩, trivial⟩) | exact Le.nils rfl (fun x => (cCm_ok x).1) | refine Le.lst rfl (fun _ _ => rfl) (fun x => (cCm_ok x).1) ?_ | refine Le.agg ?_ | refine Le.tup ?_ | refine Le.fn ?_ ?_ | refine Le.spt ?_ | exact Le.any _))) <;> exact .sl hpars.symm) (tail pars hpl)

      · clear hA
        cbv
        obtain ⟨pars, hpars⟩ : ∃ p : List Int, p = [] := ⟨_, rfl⟩
        have hpl : pars.length ≤ 2 := by rw [hpars]; simp
        exact satTo 2 (grwT x h pars) (by ((try cbv) <;> (repeat' (first | with_reducible exact trivial | with_reducible refine And.intro ?_ ?_)) <;> (try first | exact SlotLe.refl _ | exact SlotLe.dyn rfl | exact SlotLe.map rfl | exact SlotLe.iter rfl rfl (.inl rfl) | exact SlotLe.iter rfl rfl (.inr rfl) | refine SlotLe.fix ?_ | refine SlotLe.dyn ?_) <;> ((repeat' first | exact LeL.nil | exact Le.refl _ | refine LeL.cons ?_ ?_ | exact Le.ic rfl | exact Le.bc rfl | exact Le.i rfl | exact Le.b rfl | exact Le.sl rfl | exact Le.mp rfl | exact Le.csl rfl | exact Le.cslsl rfl | exact Le.nils rfl (fun _ => ⟨trivial, trivial⟩) | refine Le.lst rfl (fun _ _ => rfl) (fun _ => ⟨trivial, trivial⟩) ?_ | refine Le.lst rfl (fun _ _ => rfl) (fun _ => ⟨fun _ => ⟨trivial, trivial⟩, trivial⟩) ?_ | exact Le.nils rfl (fun _ => ⟨fun _ => ⟨trivial, trivial⟩, trivial⟩) | exact Le.nils rfl (fun x => (cCm_ok x).1) | refine Le.lst rfl (fun _ _ => rfl) (fun x => (cCm_ok x).1) ?_ | refine Le.agg ?_ | refine Le.tup ?_ | refine Le.fn ?_ ?_ | refine Le.spt ?_ | exact Le.any _))) <;> exact .sl hh.symm) (by ((try cbv) <;> (repeat' (first | with_reducible exact trivial | with_reducible refine And.intro ?_ ?_)) <;> (try first | exact SlotLe.refl _ | exact SlotLe.dyn rfl | exact SlotLe.map rfl | exact SlotLe.iter rfl rfl (.inl rfl) | exact SlotLe.iter rfl rfl (.inr rfl) | refine SlotLe.fix ?_ | refine SlotLe.dyn ?_) <;> ((repeat' first | exact LeL.nil | exact Le.refl _ | refine LeL.cons ?_ ?_ | exact Le.ic rfl | exact Le.bc rfl | exact Le.i rfl | exact Le.b rfl | exact Le.sl rfl | exact Le.mp rfl | exact Le.csl rfl | exact Le.cslsl rfl | exact Le.nils rfl (fun _ => ⟨trivial, trivial⟩) | refine Le.lst rfl (fun _ _ => rfl) (fun _ => ⟨trivial, trivial⟩) ?_ | refine Le.lst rfl (fun _ _ => rfl) (fun _ => ⟨fun _ => ⟨trivial, trivial⟩, trivial⟩) ?_ | exact Le.nils rfl (fun _ => ⟨fun _ => ⟨trivial, trivial⟩, trivial⟩) | exact Le.nils rfl (fun x => (cCm_ok x).1) | refine Le.lst rfl (fun _ _ => rfl) (fun x => (cCm_ok x).1) ?_ | refine Le.agg ?_ | refine Le.tup ?_ | refine Le.fn ?_ ?_ | refine Le.spt ?_ | exact Le.any _))) <;> exact .nils hpars (fun y => (cU64_ok y).1)) (tail pars hpl)

  · intro pars hpl
    refine Sat.go ctx23_ok ctx23_inl (lv := 2) (by kernel_rfl) ?_
    obtain ⟨A, hA⟩ : ∃ A, A = addM dgW h ⟨x.w.id, pars, x.w.tree, x.w.no⟩ := ⟨_, rfl⟩
    obtain ⟨y, hy⟩ : ∃ y, y = pickM h x.c := ⟨_, rfl⟩
    cbv
    refine ⟨⟨h, ⟨x.w.id, pars, x.w.tree, x.w.no⟩⟩, ⟨by ((repeat' first | exact LeL.nil | exact Le.refl _ | refine LeL.cons ?_ ?_ | exact Le.ic rfl | exact Le.bc rfl | exact Le.i rfl | exact Le.b rfl | exact Le.sl rfl | exact Le.mp rfl | exact Le.csl rfl | exact Le.cslsl rfl | exact Le.nils rfl (fun _ => ⟨trivial, trivial⟩) | refine Le.lst rfl (fun _ _ => rfl) (fun _ => ⟨trivial, trivial⟩) ?_ | refine Le.lst rfl (fun _ _ => rfl) (fun _ => ⟨fun _ => ⟨trivial, trivial⟩, trivial⟩) ?_ | exact Le.nils rfl (fun _ => ⟨fun _ => ⟨trivial, trivial⟩, trivial⟩) | exact Le.nils rfl (fun x => (cCm_ok x).1) | refine Le.lst rfl (fun _ _ => rfl) (fun x => (cCm_ok x).1) ?_ | refine Le.agg ?_ | refine Le.tup ?_ | refine Le.fn ?_ ?_ | refine Le.spt ?_ | exact Le.any _)), ⟨H, by show pars.length ≤ 1000000; omega⟩⟩, ?_⟩
    cbv
    refine ⟨fun h6 => ?_, fun h6 => ?_⟩
    · have h6 : (!eqB (addM dgW h ⟨x.w.id, pars, x.w.tree, x.w.no⟩).e 0) = true := h6.out
      rw [← hA] at h6
      obtain ⟨e1, e2, e3⟩ := growE G (by omega) hA (by simpa [eqB] using h6)
      have e2 : ltB 0 (pars.length : Int) = true := by have e2 : 0 < pars.length := e2; simp [ltB]; omega
      have e3 : eqB (A.h.length : Int) 0 = true := by rw [e3]; rfl
      have rest : ∀ c : Bool, c = true → c = true := fun _ h => h
      cbv
      refine ⟨fun h7 => ?_, fun h7 => ?_⟩
      · cbv
        refine ⟨fun h0 => ?_, fun h0 => ?_⟩
        rotate_left
        · cbv
          exfalso
          have h0 : ltB 0 (pars.length : Int) = false := h0.out
          rw [e2] at h0; cases h0
        cbv
        refine ⟨fun h0 => ?_, fun h0 => ?_⟩
        rotate_left
        · cbv
          exfalso
          have h0 : eqB ((addM dgW h ⟨x.w.id, pars, x.w.tree, x.w.no⟩).h.length : Int) 0 = false := h0.out
          rw [← hA] at h0; rw [e3] at h0; cases h0
        cbv

        exact ⟨.refl _⟩
      · have h7 : eqB (addM dgW h ⟨x.w.id, pars, x.w.tree, x.w.no⟩).e 1 = false := h7.out
        rw [← hA] at h7
        have e4 : eqB A.e 4 = true := by
          rcases e1 with e | e
          · rw [e] at h7; cases h7
          · rw [e]; rfl
        cbv
        refine ⟨fun h0 => ?_, fun h0 => ?_⟩
        rotate_left
        · cbv
          exfalso
          have h0 : eqB (addM dgW h ⟨x.w.id, pars, x.w.tree, x.w.no⟩).e 4 = false := h0.out
          rw [← hA] at h0; rw [e4] at h0; cases h0
        cbv
        refine ⟨fun h0 => ?_, fun h0 => ?_⟩
        rotate_left
        · cbv
          exfalso
          have h0 : ltB 0 (pars.length : Int) = false := h0.out
          rw [e2] at h0; cases h0
        cbv
        refine ⟨fun h0 => ?_, fun h0 => ?_⟩
        rotate_left
        · cbv
          exfalso
          have h0 : eqB ((addM dgW h ⟨x.w.id, pars, x.w.tree, x.w.no⟩).h.length : Int) 0 = false := h0.out
          rw [← hA] at h0; rw [e3] at h0; cases h0
        cbv

        exact ⟨.refl _⟩
    have h6 : (!eqB (addM dgW h ⟨x.w.id, pars, x.w.tree, x.w.no⟩).e 0) = false := h6.out
    rw [← hA] at h6
    obtain ⟨o, F⟩ := growF G hA (by simpa [eqB] using h6)
    have hAl := F.l2
    have hAH : Hs A.h := F.g.hs (by omega)
    have hAv : Hv A.h := ⟨by omega, hAH.m⟩
    have hAle : A.h.length < 2305843009213693952 := by omega
    have f1 : (!eqB (okC A.h) 0) = false := by rw [F.ok]; rfl
    have f2 : ltB (A.h.length : Int) (h.length : Int) = false := by have := F.l1; simp [ltB]; omega
    have f3 : ltB (IntKind.i64.wrap ((h.length : Int) + 1)) (A.h.length : Int) = false := by rw [w64 (by omega) (by omega)]; simp [ltB]; omega
    have f4 : 0 ≤ (0 : Int) ∧ (0 : Int) ≤ (h.length : Int) ∧ (h.length : Int) ≤ (A.h.length : Int) := ⟨by omega, by omega, by have := F.l1; omega⟩
    have f5 : List.drop ((0 : Int)).toNat (List.take ((h.length : Int)).toNat A.h) = h := by simp [F.top]
    have f6 : ltB (idx A.h A.i) 0 = false := by have := F.ix; simp [ltB]; omega
    cbv
    refine ⟨A.h, ⟨.cons (.sl (by rw [hA])) .nil, hAv⟩, ?_⟩
    cbv
    refine ⟨fun h0 => ?_, fun h0 => ?_⟩
    · cbv
      exfalso
      have h0 : (!eqB (okC A.h) 0) = true := h0.out
      rw [f1] at h0; cases h0
    cbv
    refine ⟨A.h, ⟨.cons (.sl (by rw [hA])) .nil, hAv⟩, ?_⟩
    cbv
    refine ⟨fun h0 => ?_, fun h0 => ?_⟩
    · cbv
      exfalso
      have h0 : (!eqB (okC A.h) 0) = true := h0.out
      rw [f1] at h0; cases h0
    cbv
    refine ⟨fun h0 => ?_, fun h0 => ?_⟩
    · cbv
      exfalso
      have h0 : ltB ((addM dgW h ⟨x.w.id, pars, x.w.tree, x.w.no⟩).h.length : Int) (h.length : Int) = true := h0.out
      rw [← hA] at h0; rw [f2] at h0; cases h0
    cbv
    refine ⟨fun h0 => ?_, fun h0 => ?_⟩
    · cbv
      exfalso
      have h0 : ltB (IntKind.i64.wrap ((h.length : Int) + 1)) ((addM dgW h ⟨x.w.id, pars, x.w.tree, x.w.no⟩).h.length : Int) = true := h0.out
      rw [← hA] at h0; rw [f3] at h0; cases h0
    cbv
    have f4a : 0 ≤ (0 : Int) ∧ (0 : Int) ≤ (h.length : Int) ∧ (h.length : Int) ≤ ((addM dgW h ⟨x.w.id, pars, x.w.tree, x.w.no⟩).h.length : Int) := by rw [← hA]; exact f4
    have f5a : List.drop ((0 : Int)).toNat (List.take ((h.length : Int)).toNat (addM dgW h ⟨x.w.id, pars, x.w.tree, x.w.no⟩).h) = h := by rw [← hA]; exact f5
    refine ⟨⟨f4a⟩, ?_⟩
    refine ⟨⟨h, h⟩, ⟨.cons (.sl f5a) (.cons (.sl rfl) .nil), H⟩, ?_⟩
    cbv
    refine ⟨fun h0 => ?_, fun h0 => ?_⟩
    · cbv
      exfalso
      have h0 : (!(h == h)) = true := h0.out
      simp at h0
    cbv
    refine ⟨⟨A.h, A.i⟩, ⟨.cons (.sl (by rw [hA])) (.cons (.i (by rw [hA])) .nil), hAle⟩, ?_⟩
    cbv
    refine ⟨fun h0 => ?_, fun h0 => ?_⟩
    · cbv
      exfalso
      have h0 : ltB (idx A.h A.i) 0 = true := h0.out
      rw [f6] at h0; cases h0
    cbv
    refine ⟨⟨h, x.c⟩, ⟨by ((repeat' first | exact LeL.nil | exact Le.refl _ | refine LeL.cons ?_ ?_ | exact Le.ic rfl | exact Le.bc rfl | exact Le.i rfl | exact Le.b rfl | exact Le.sl rfl | exact Le.mp rfl | exact Le.csl rfl | exact Le.cslsl rfl | exact Le.nils rfl (fun _ => ⟨trivial, trivial⟩) | refine Le.lst rfl (fun _ _ => rfl) (fun _ => ⟨trivial, trivial⟩) ?_ | refine Le.lst rfl (fun _ _ => rfl) (fun _ => ⟨fun _ => ⟨trivial, trivial⟩, trivial⟩) ?_ | exact Le.nils rfl (fun _ => ⟨fun _ => ⟨trivial, trivial⟩, trivial⟩) | exact Le.nils rfl (fun x => (cCm_ok x).1) | refine Le.lst rfl (fun _ _ => rfl) (fun x => (cCm_ok x).1) ?_ | refine Le.agg ?_ | refine Le.tup ?_ | refine Le.fn ?_ ?_ | refine Le.spt ?_ | exact Le.any _)), ⟨H, kc.1, kc.2⟩⟩, ?_⟩
    cbv
    refine ⟨⟨A.h, A.i⟩, ⟨.cons (.sl (by rw [hA])) (.cons (.i (by rw [hA])) .nil), hAle⟩, ?_⟩
    cbv
    have hAo := F.at_
    have hAo2 : (addM dgW h ⟨x.w.id, pars, x.w.tree, x.w.no⟩).h[(idx A.h A.i).toNat]? = some o := by rw [← hA]; exact hAo
    have hop : o.par.length < 2305843009213693952 := by have := hAH.get hAo; omega
    refine ⟨o, ⟨F.ix, hAo2⟩, ?_⟩
    cbv
    refine ⟨⟨o, ⟨A.i, pars, x.w.tree, x.w.no⟩⟩, ⟨.cons (.agg (by ((repeat' first | exact LeL.nil | exact Le.refl _ | refine LeL.cons ?_ ?_ | exact Le.ic rfl | exact Le.bc rfl | exact Le.i rfl | exact Le.b rfl | exact Le.sl rfl | exact Le.mp rfl | exact Le.csl rfl | exact Le.cslsl rfl | exact Le.nils rfl (fun _ => ⟨trivial, trivial⟩) | refine Le.lst rfl (fun _ _ => rfl) (fun _ => ⟨trivial, trivial⟩) ?_ | refine Le.lst rfl (fun _ _ => rfl) (fun _ => ⟨fun _ => ⟨trivial, trivial⟩, trivial⟩) ?_ | exact Le.nils rfl (fun _ => ⟨fun _ => ⟨trivial, trivial⟩, trivial⟩) | exact Le.nils rfl (fun x => (cCm_ok x).1) | refine Le.lst rfl (fun _ _ => rfl) (fun x => (cCm_ok x).1) ?_ | refine Le.agg ?_ | refine Le.tup ?_ | refine Le.fn ?_ ?_ | refine Le.spt ?_ | exact Le.any _)))) (.cons (.agg (.cons (.i (by rw [hA])) (by ((repeat' first | exact LeL.nil | exact Le.refl _ | refine LeL.cons ?_ ?_ | exact Le.ic rfl | exact Le.bc rfl | exact Le.i rfl | exact Le.b rfl | exact Le.sl rfl | exact Le.mp rfl | exact Le.csl rfl | exact Le.cslsl rfl | exact Le.nils rfl (fun _ => ⟨trivial, trivial⟩) | refine Le.lst rfl (fun _ _ => rfl) (fun _ => ⟨trivial, trivial⟩) ?_ | refine Le.lst rfl (fun _ _ => rfl) (fun _ => ⟨fun _ => ⟨trivial, trivial⟩, trivial⟩) ?_ | exact Le.nils rfl (fun _ => ⟨fun _ => ⟨trivial, trivial⟩, trivial⟩) | exact Le.nils rfl (fun x => (cCm_ok x).1) | refine Le.lst rfl (fun _ _ => rfl) (fun x => (cCm_ok x).1) ?_ | refine Le.agg ?_ | refine Le.tup ?_ | refine Le.fn ?_ ?_ | refine Le.spt ?_ | exact Le.any _))))) .nil), hop⟩, ?_⟩
    cbv
    refine ⟨fun h7 => ?_, fun h7 => ?_⟩
    · have h7 : (!o.same ⟨A.i, pars, x.w.tree, x.w.no⟩) = true := h7.out
      have hne : o ≠ ⟨A.i, pars, x.w.tree, x.w.no⟩ := fun e => by rw [(Cm.same_iff _ _).2 e] at h7; cases h7
      have hgh := F.old hne
      cbv
      refine ⟨⟨A.h, h⟩, ⟨.cons (.sl (by rw [hA])) (.cons (.sl rfl) .nil), hAH⟩, ?_⟩
      cbv
      refine ⟨fun h0 => ?_, fun h0 => ?_⟩
      rotate_left
      · cbv
        exfalso
        have h0 : (A.h == h) = false := h0.out
        rw [hgh] at h0; simp at h0
      cbv

      exact ⟨.refl _⟩
    have h7 : (!o.same ⟨A.i, pars, x.w.tree, x.w.no⟩) = false := h7.out
    have hoe : o = ⟨A.i, pars, x.w.tree, x.w.no⟩ := (Cm.same_iff _ _).1 (by simpa using h7)
    have hup := F.up hoe y
    cbv
    refine ⟨⟨A.h, y⟩, ⟨.cons (.sl (by rw [hA])) (.cons (.i hy.symm) .nil), hAH⟩, ?_⟩
    cbv
    refine ⟨⟨h, y⟩, ⟨.cons (.sl rfl) (.cons (.i hy.symm) .nil), H⟩, ?_⟩
    cbv
    refine ⟨⟨⟨(ancS A.h y).1, (ancS A.h y).2⟩, ⟨(ancS h y).1, (ancS h y).2⟩⟩, ⟨by ((repeat' first | exact LeL.nil | exact Le.refl _ | refine LeL.cons ?_ ?_ | exact Le.ic rfl | exact Le.bc rfl | exact Le.i rfl | exact Le.b rfl | exact Le.sl rfl | exact Le.mp rfl | exact Le.csl rfl | exact Le.cslsl rfl | exact Le.nils rfl (fun _ => ⟨trivial, trivial⟩) | refine Le.lst rfl (fun _ _ => rfl) (fun _ => ⟨trivial, trivial⟩) ?_ | refine Le.lst rfl (fun _ _ => rfl) (fun _ => ⟨fun _ => ⟨trivial, trivial⟩, trivial⟩) ?_ | exact Le.nils rfl (fun _ => ⟨fun _ => ⟨trivial, trivial⟩, trivial⟩) | exact Le.nils rfl (fun x => (cCm_ok x).1) | refine Le.lst rfl (fun _ _ => rfl) (fun x => (cCm_ok x).1) ?_ | refine Le.agg ?_ | refine Le.tup ?_ | refine Le.fn ?_ ?_ | refine Le.spt ?_ | exact Le.any _)), ancS_len hAle y⟩, ?_⟩
    cbv
    refine ⟨fun h8 => ?_, fun h8 => ?_⟩
    · have h8 : (!((ancS A.h y).2 == (ancS h y).2 && (ancS A.h y).1 == (ancS h y).1)) = true := h8.out
      have hyi : y = A.i := Decidable.by_contra fun e => by rw [F.anc y e] at h8; simp at h8
      have f7 : (!eqB (pickM h x.c) A.i) = false := by rw [← hy, hyi]; simp [eqB]
      cbv
      refine ⟨fun h0 => ?_, fun h0 => ?_⟩
      · cbv
        exfalso
        have h0 : (!eqB (pickM h x.c) (addM dgW h ⟨x.w.id, pars, x.w.tree, x.w.no⟩).i) = true := h0.out
        rw [← hA] at h0; rw [f7] at h0; cases h0
      cbv
      refine Sat.loopD ctx23_ok ctx23_inl (lv := 2) (by kernel_rfl) 3 10 [] (fun j : Nat => [(10, .i .u64 (fun _ => y)), (11, .b (fun _ => (eqB y A.i || (pars.take j).any (fun p => isA A.h y p)))), (12, .i .i64 (fun _ => (j : Int)))]) (fun j => [(1, .fix 43 [.i .u64 (fun _ => A.i), .sl 1 cU64 (fun _ => pars), .i .u64 (fun _ => x.w.tree), .i .i64 (fun _ => x.w.no)]), (2, .fix 46 [.sl 4 cCm (fun _ => A.h), .i .u64 (fun _ => A.i), .i .i64 (fun _ => A.e)])])
        (fun j => j ≤ pars.length) (fun j => pars.length - j) 0 (by ((try cbv) <;> (repeat' (first | with_reducible exact trivial | with_reducible refine And.intro ?_ ?_)) <;> (try first | exact SlotLe.refl _ | exact SlotLe.dyn rfl | exact SlotLe.map rfl | exact SlotLe.iter rfl rfl (.inl rfl) | exact SlotLe.iter rfl rfl (.inr rfl) | refine SlotLe.fix ?_ | refine SlotLe.dyn ?_) <;> ((repeat' first | exact LeL.nil | exact Le.refl _ | refine LeL.cons ?_ ?_ | exact Le.ic rfl | exact Le.bc rfl | exact Le.i rfl | exact Le.b rfl | exact Le.sl rfl | exact Le.mp rfl | exact Le.csl rfl | exact Le.cslsl rfl | exact Le.nils rfl (fun _ => ⟨trivial, trivial⟩) | refine Le.lst rfl (fun _ _ => rfl) (fun _ => ⟨trivial, trivial⟩) ?_ | refine Le.lst rfl (fun _ _ => rfl) (fun _ => ⟨fun _ => ⟨trivial, trivial⟩, trivial⟩) ?_ | exact Le.nils rfl (fun _ => ⟨fun _ => ⟨trivial, trivial⟩, trivial⟩) | exact Le.nils rfl (fun x => (cCm_ok x).1) | refine Le.lst rfl (fun _ _ => rfl) (fun x => (cCm_ok x).1) ?_ | refine Le.agg ?_ | refine Le.tup ?_ | refine Le.fn ?_ ?_ | refine Le.spt ?_ | exact Le.any _))) <;> first | exact .i hy.symm | exact .b (by show eqB (pickM h x.c) (addM dgW h ⟨x.w.id, pars, x.w.tree, x.w.no⟩).i = (eqB y A.i || false); rw [← hy, ← hA, Bool.or_false])) (by ((try cbv) <;> (repeat' (first | with_reducible exact trivial | with_reducible refine And.intro ?_ ?_)) <;> (try first | exact SlotLe.refl _ | exact SlotLe.dyn rfl | exact SlotLe.map rfl | exact SlotLe.iter rfl rfl (.inl rfl) | exact SlotLe.iter rfl rfl (.inr rfl) | refine SlotLe.fix ?_ | refine SlotLe.dyn ?_) <;> ((repeat' first | exact LeL.nil | exact Le.refl _ | refine LeL.cons ?_ ?_ | exact Le.ic rfl | exact Le.bc rfl | exact Le.i rfl | exact Le.b rfl | exact Le.sl rfl | exact Le.mp rfl | exact Le.csl rfl | exact Le.cslsl rfl | exact Le.nils rfl (fun _ => ⟨trivial, trivial⟩) | refine Le.lst rfl (fun _ _ => rfl) (fun _ => ⟨trivial, trivial⟩) ?_ | refine Le.lst rfl (fun _ _ => rfl) (fun _ => ⟨fun _ => ⟨trivial, trivial⟩, trivial⟩) ?_ | exact Le.nils rfl (fun _ => ⟨fun _ => ⟨trivial, trivial⟩, trivial⟩) | exact Le.nils rfl (fun x => (cCm_ok x).1) | refine Le.lst rfl (fun _ _ => rfl) (fun x => (cCm_ok x).1) ?_ | refine Le.agg ?_ | refine Le.tup ?_ | refine Le.fn ?_ ?_ | refine Le.spt ?_ | exact Le.any _))) <;> first | exact .i (by rw [hA]) | exact .sl (by rw [hA])) (by omega) ?_
      intro j hj
      cbv
      refine ⟨fun h9 => ?_, fun h9 => ?_⟩
      · have h9 := h9.out
        have hltj : j < pars.length := by simp [ltB] at h9; ((try simp only [Go.Vc.natc] at *); omega)
        obtain ⟨vp, hvp⟩ : ∃ v, pars[j]? = some v := ⟨_, List.getElem?_eq_getElem hltj⟩
        have nx := any_next (p := fun p => isA A.h y p) hvp
        have hj2 : 0 ≤ (j : Int) := Int.natCast_nonneg j
        cbv
        refine ⟨fun hC => ?_, fun hC => ?_⟩
        · have hC : (eqB y A.i || (pars.take j).any (fun p => isA A.h y p)) = true := hC.out
          have nx1 : true = (eqB y A.i || (pars.take (j + 1)).any (fun p => isA A.h y p)) := by rw [nx, ← Bool.or_assoc, hC]; rfl
          cbv
          refine ⟨j + 1, by ((try cbv) <;> (repeat' (first | with_reducible exact trivial | with_reducible refine And.intro ?_ ?_)) <;> (try first | exact SlotLe.refl _ | exact SlotLe.dyn rfl | exact SlotLe.map rfl | exact SlotLe.iter rfl rfl (.inl rfl) | exact SlotLe.iter rfl rfl (.inr rfl) | refine SlotLe.fix ?_ | refine SlotLe.dyn ?_) <;> ((repeat' first | exact LeL.nil | exact Le.refl _ | refine LeL.cons ?_ ?_ | exact Le.ic rfl | exact Le.bc rfl | exact Le.i rfl | exact Le.b rfl | exact Le.sl rfl | exact Le.mp rfl | exact Le.csl rfl | exact Le.cslsl rfl | exact Le.nils rfl (fun _ => ⟨trivial, trivial⟩) | refine Le.lst rfl (fun _ _ => rfl) (fun _ => ⟨trivial, trivial⟩) ?_ | refine Le.lst rfl (fun _ _ => rfl) (fun _ => ⟨fun _ => ⟨trivial, trivial⟩, trivial⟩) ?_ | exact Le.nils rfl (fun _ => ⟨fun _ => ⟨trivial, trivial⟩, trivial⟩) | exact Le.nils rfl (fun x => (cCm_ok x).1) | refine Le.lst rfl (fun _ _ => rfl) (fun x => (cCm_ok x).1) ?_ | refine Le.agg ?_ | refine Le.tup ?_ | refine Le.fn ?_ ?_ | refine Le.spt ?_ | exact Le.any _))) <;> first | exact .bc nx1 | (refine .i ?_; show IntKind.i64.wrap ((j : Int) + 1) = ((j + 1 : Nat) : Int); rw [w64 (by omega) (by omega)]; rfl), by ((try cbv) <;> (repeat' (first | with_reducible exact trivial | with_reducible refine And.intro ?_ ?_)) <;> (try first | exact SlotLe.refl _ | exact SlotLe.dyn rfl | exact SlotLe.map rfl | exact SlotLe.iter rfl rfl (.inl rfl) | exact SlotLe.iter rfl rfl (.inr rfl) | refine SlotLe.fix ?_ | refine SlotLe.dyn ?_) <;> ((repeat' first | exact LeL.nil | exact Le.refl _ | refine LeL.cons ?_ ?_ | exact Le.ic rfl | exact Le.bc rfl | exact Le.i rfl | exact Le.b rfl | exact Le.sl rfl | exact Le.mp rfl | exact Le.csl rfl | exact Le.cslsl rfl | exact Le.nils rfl (fun _ => ⟨trivial, trivial⟩) | refine Le.lst rfl (fun _ _ => rfl) (fun _ => ⟨trivial, trivial⟩) ?_ | refine Le.lst rfl (fun _ _ => rfl) (fun _ => ⟨fun _ => ⟨trivial, trivial⟩, trivial⟩) ?_ | exact Le.nils rfl (fun _ => ⟨fun _ => ⟨trivial, trivial⟩, trivial⟩) | exact Le.nils rfl (fun x => (cCm_ok x).1) | refine Le.lst rfl (fun _ _ => rfl) (fun x => (cCm_ok x).1) ?_ | refine Le.agg ?_ | refine Le.tup ?_ | refine Le.fn ?_ ?_ | refine Le.spt ?_ | exact Le.any _))), ⟨by show j + 1 ≤ pars.length ∧ pars.length - (j + 1) < pars.length - j; omega⟩⟩
        · have hC : (eqB y A.i || (pars.take j).any (fun p => isA A.h y p)) = false := hC.out
          have nx1 : isA A.h y vp = (eqB y A.i || (pars.take (j + 1)).any (fun p => isA A.h y p)) := by rw [nx, ← Bool.or_assoc, hC]; rfl
          cbv
          refine ⟨vp, ⟨hj2, hvp⟩, ?_⟩
          cbv
          refine ⟨⟨A.h, y, vp⟩, ⟨by ((repeat' first | exact LeL.nil | exact Le.refl _ | refine LeL.cons ?_ ?_ | exact Le.ic rfl | exact Le.bc rfl | exact Le.i rfl | exact Le.b rfl | exact Le.sl rfl | exact Le.mp rfl | exact Le.csl rfl | exact Le.cslsl rfl | exact Le.nils rfl (fun _ => ⟨trivial, trivial⟩) | refine Le.lst rfl (fun _ _ => rfl) (fun _ => ⟨trivial, trivial⟩) ?_ | refine Le.lst rfl (fun _ _ => rfl) (fun _ => ⟨fun _ => ⟨trivial, trivial⟩, trivial⟩) ?_ | exact Le.nils rfl (fun _ => ⟨fun _ => ⟨trivial, trivial⟩, trivial⟩) | exact Le.nils rfl (fun x => (cCm_ok x).1) | refine Le.lst rfl (fun _ _ => rfl) (fun x => (cCm_ok x).1) ?_ | refine Le.agg ?_ | refine Le.tup ?_ | refine Le.fn ?_ ?_ | refine Le.spt ?_ | exact Le.any _)), hAH⟩, ?_⟩
          cbv

          refine ⟨j + 1, by ((try cbv) <;> (repeat' (first | with_reducible exact trivial | with_reducible refine And.intro ?_ ?_)) <;> (try first | exact SlotLe.refl _ | exact SlotLe.dyn rfl | exact SlotLe.map rfl | exact SlotLe.iter rfl rfl (.inl rfl) | exact SlotLe.iter rfl rfl (.inr rfl) | refine SlotLe.fix ?_ | refine SlotLe.dyn ?_) <;> ((repeat' first | exact LeL.nil | exact Le.refl _ | refine LeL.cons ?_ ?_ | exact Le.ic rfl | exact Le.bc rfl | exact Le.i rfl | exact Le.b rfl | exact Le.sl rfl | exact Le.mp rfl | exact Le.csl rfl | exact Le.cslsl rfl | exact Le.nils rfl (fun _ => ⟨trivial, trivial⟩) | refine Le.lst rfl (fun _ _ => rfl) (fun _ => ⟨trivial, trivial⟩) ?_ | refine Le.lst rfl (fun _ _ => rfl) (fun _ => ⟨fun _ => ⟨trivial, trivial⟩, trivial⟩) ?_ | exact Le.nils rfl (fun _ => ⟨fun _ => ⟨trivial, trivial⟩, trivial⟩) | exact Le.nils rfl (fun x => (cCm_ok x).1) | refine Le.lst rfl (fun _ _ => rfl) (fun x => (cCm_ok x).1) ?_ | refine Le.agg ?_ | refine Le.tup ?_ | refine Le.fn ?_ ?_ | refine Le.spt ?_ | exact Le.any _))) <;> first | exact .b nx1 | (refine .i ?_; show IntKind.i64.wrap ((j : Int) + 1) = ((j + 1 : Nat) : Int); rw [w64 (by omega) (by omega)]; rfl), by ((try cbv) <;> (repeat' (first | with_reducible exact trivial | with_reducible refine And.intro ?_ ?_)) <;> (try first | exact SlotLe.refl _ | exact SlotLe.dyn rfl | exact SlotLe.map rfl | exact SlotLe.iter rfl rfl (.inl rfl) | exact SlotLe.iter rfl rfl (.inr rfl) | refine SlotLe.fix ?_ | refine SlotLe.dyn ?_) <;> ((repeat' first | exact LeL.nil | exact Le.refl _ | refine LeL.cons ?_ ?_ | exact Le.ic rfl | exact Le.bc rfl | exact Le.i rfl | exact Le.b rfl | exact Le.sl rfl | exact Le.mp rfl | exact Le.csl rfl | exact Le.cslsl rfl | exact Le.nils rfl (fun _ => ⟨trivial, trivial⟩) | refine Le.lst rfl (fun _ _ => rfl) (fun _ => ⟨trivial, trivial⟩) ?_ | refine Le.lst rfl (fun _ _ => rfl) (fun _ => ⟨fun _ => ⟨trivial, trivial⟩, trivial⟩) ?_ | exact Le.nils rfl (fun _ => ⟨fun _ => ⟨trivial, trivial⟩, trivial⟩) | exact Le.nils rfl (fun x => (cCm_ok x).1) | refine Le.lst rfl (fun _ _ => rfl) (fun x => (cCm_ok x).1) ?_ | refine Le.agg ?_ | refine Le.tup ?_ | refine Le.fn ?_ ?_ | refine Le.spt ?_ | exact Le.any _))), ⟨by show j + 1 ≤ pars.length ∧ pars.length - (j + 1) < pars.length - j; omega⟩⟩
      have h9 := h9.out
      have hltj : ¬ j < pars.length := by simp [ltB] at h9; ((try simp only [Go.Vc.natc] at *); omega)
      have ht : pars.take j = pars := List.take_of_length_le (by omega)
      have hab : ∀ q : Bool, (eqB y A.i || (pars.take j).any (fun p => isA A.h y p)) = q → isA A.h y A.i = (q && has A.h y) := fun q hq => by
        rw [hup, ← hq, ht]
        congr 2
      have hhas : leB 0 (idx A.h y) = has A.h y := by
        have := idx_neg A.h y
        cases q : has A.h y with
        | true => have := has_lt q; simp [leB]; omega
        | false => have := this.2 q; simp [leB]; omega
      have hag : (addM dgW A.h ⟨A.i, pars, x.w.tree, x.w.no⟩) = ⟨A.h, A.i, 0⟩ := F.again
      cbv
      refine ⟨⟨A.h, ⟨A.i, pars, x.w.tree, x.w.no⟩⟩, ⟨by ((repeat' first | exact LeL.nil | exact Le.refl _ | refine LeL.cons ?_ ?_ | exact Le.ic rfl | exact Le.bc rfl | exact Le.i rfl | exact Le.b rfl | exact Le.sl rfl | exact Le.mp rfl | exact Le.csl rfl | exact Le.cslsl rfl | exact Le.nils rfl (fun _ => ⟨trivial, trivial⟩) | refine Le.lst rfl (fun _ _ => rfl) (fun _ => ⟨trivial, trivial⟩) ?_ | refine Le.lst rfl (fun _ _ => rfl) (fun _ => ⟨fun _ => ⟨trivial, trivial⟩, trivial⟩) ?_ | exact Le.nils rfl (fun _ => ⟨fun _ => ⟨trivial, trivial⟩, trivial⟩) | exact Le.nils rfl (fun x => (cCm_ok x).1) | refine Le.lst rfl (fun _ _ => rfl) (fun x => (cCm_ok x).1) ?_ | refine Le.agg ?_ | refine Le.tup ?_ | refine Le.fn ?_ ?_ | refine Le.spt ?_ | exact Le.any _)), ⟨hAH, by show pars.length ≤ 1000000; omega⟩⟩, ?_⟩
      cbv
      refine ⟨⟨A.h, y, A.i⟩, ⟨by ((repeat' first | exact LeL.nil | exact Le.refl _ | refine LeL.cons ?_ ?_ | exact Le.ic rfl | exact Le.bc rfl | exact Le.i rfl | exact Le.b rfl | exact Le.sl rfl | exact Le.mp rfl | exact Le.csl rfl | exact Le.cslsl rfl | exact Le.nils rfl (fun _ => ⟨trivial, trivial⟩) | refine Le.lst rfl (fun _ _ => rfl) (fun _ => ⟨trivial, trivial⟩) ?_ | refine Le.lst rfl (fun _ _ => rfl) (fun _ => ⟨fun _ => ⟨trivial, trivial⟩, trivial⟩) ?_ | exact Le.nils rfl (fun _ => ⟨fun _ => ⟨trivial, trivial⟩, trivial⟩) | exact Le.nils rfl (fun x => (cCm_ok x).1) | refine Le.lst rfl (fun _ _ => rfl) (fun x => (cCm_ok x).1) ?_ | refine Le.agg ?_ | refine Le.tup ?_ | refine Le.fn ?_ ?_ | refine Le.spt ?_ | exact Le.any _)), hAH⟩, ?_⟩
      cbv

      refine ⟨fun hC => ?_, fun hC => ?_⟩
      · have hC := hab true hC.out
        have hq : (isA A.h y A.i == leB 0 (idx A.h y)) = true := by rw [hC, hhas]; simp
        cbv
        refine ⟨⟨A.h, y⟩, ⟨by ((repeat' first | exact LeL.nil | exact Le.refl _ | refine LeL.cons ?_ ?_ | exact Le.ic rfl | exact Le.bc rfl | exact Le.i rfl | exact Le.b rfl | exact Le.sl rfl | exact Le.mp rfl | exact Le.csl rfl | exact Le.cslsl rfl | exact Le.nils rfl (fun _ => ⟨trivial, trivial⟩) | refine Le.lst rfl (fun _ _ => rfl) (fun _ => ⟨trivial, trivial⟩) ?_ | refine Le.lst rfl (fun _ _ => rfl) (fun _ => ⟨fun _ => ⟨trivial, trivial⟩, trivial⟩) ?_ | exact Le.nils rfl (fun _ => ⟨fun _ => ⟨trivial, trivial⟩, trivial⟩) | exact Le.nils rfl (fun x => (cCm_ok x).1) | refine Le.lst rfl (fun _ _ => rfl) (fun x => (cCm_ok x).1) ?_ | refine Le.agg ?_ | refine Le.tup ?_ | refine Le.fn ?_ ?_ | refine Le.spt ?_ | exact Le.any _)), hAle⟩, ?_⟩
        cbv
        refine ⟨fun h0 => ?_, fun h0 => ?_⟩
        rotate_left
        · cbv
          exfalso
          have h0 : (isA A.h y A.i == leB 0 (idx A.h y)) = false := h0.out
          rw [hq] at h0; cases h0
        cbv
        refine ⟨⟨A.h, A.i, A.i⟩, ⟨by ((repeat' first | exact LeL.nil | exact Le.refl _ | refine LeL.cons ?_ ?_ | exact Le.ic rfl | exact Le.bc rfl | exact Le.i rfl | exact Le.b rfl | exact Le.sl rfl | exact Le.mp rfl | exact Le.csl rfl | exact Le.cslsl rfl | exact Le.nils rfl (fun _ => ⟨trivial, trivial⟩) | refine Le.lst rfl (fun _ _ => rfl) (fun _ => ⟨trivial, trivial⟩) ?_ | refine Le.lst rfl (fun _ _ => rfl) (fun _ => ⟨fun _ => ⟨trivial, trivial⟩, trivial⟩) ?_ | exact Le.nils rfl (fun _ => ⟨fun _ => ⟨trivial, trivial⟩, trivial⟩) | exact Le.nils rfl (fun x => (cCm_ok x).1) | refine Le.lst rfl (fun _ _ => rfl) (fun x => (cCm_ok x).1) ?_ | refine Le.agg ?_ | refine Le.tup ?_ | refine Le.fn ?_ ?_ | refine Le.spt ?_ | exact Le.any _)), hAH⟩, ?_⟩
        cbv
        refine ⟨fun h0 => ?_, fun h0 => ?_⟩
        rotate_left
        · cbv
          exfalso
          have h0 : isA A.h A.i A.i = false := h0.out
          rw [F.self] at h0; cases h0
        cbv
        refine ⟨fun h0 => ?_, fun h0 => ?_⟩
        rotate_left
        · cbv
          exfalso
          have h0 : eqB (addM dgW A.h ⟨A.i, pars, x.w.tree, x.w.no⟩).e 0 = false := h0.out
          rw [hag] at h0; cases h0
        cbv
        refine ⟨fun h0 => ?_, fun h0 => ?_⟩
        rotate_left
        · cbv
          exfalso
          have h0 : eqB (addM dgW A.h ⟨A.i, pars, x.w.tree, x.w.no⟩).i A.i = false := h0.out
          rw [hag] at h0; simp [eqB] at h0
        cbv
        refine ⟨⟨A.h, A.h⟩, ⟨.cons (.sl (by rw [hag])) (.cons (.sl rfl) .nil), hAH⟩, ?_⟩
        cbv
        refine ⟨fun h0 => ?_, fun h0 => ?_⟩
        rotate_left
        · cbv
          exfalso
          have h0 : (A.h == A.h) = false := h0.out
          simp at h0
        cbv
        exact ⟨.refl _⟩

      · have hC := hab false hC.out
        have hq : (isA A.h y A.i == false) = true := by rw [hC]; rfl
        cbv
        refine ⟨fun h0 => ?_, fun h0 => ?_⟩
        rotate_left
        · cbv
          exfalso
          have h0 : (isA A.h y A.i == false) = false := h0.out
          rw [hq] at h0; cases h0
        cbv
        refine ⟨⟨A.h, A.i, A.i⟩, ⟨by ((repeat' first | exact LeL.nil | exact Le.refl _ | refine LeL.cons ?_ ?_ | exact Le.ic rfl | exact Le.bc rfl | exact Le.i rfl | exact Le.b rfl | exact Le.sl rfl | exact Le.mp rfl | exact Le.csl rfl | exact Le.cslsl rfl | exact Le.nils rfl (fun _ => ⟨trivial, trivial⟩) | refine Le.lst rfl (fun _ _ => rfl) (fun _ => ⟨trivial, trivial⟩) ?_ | refine Le.lst rfl (fun _ _ => rfl) (fun _ => ⟨fun _ => ⟨trivial, trivial⟩, trivial⟩) ?_ | exact Le.nils rfl (fun _ => ⟨fun _ => ⟨trivial, trivial⟩, trivial⟩) | exact Le.nils rfl (fun x => (cCm_ok x).1) | refine Le.lst rfl (fun _ _ => rfl) (fun x => (cCm_ok x).1) ?_ | refine Le.agg ?_ | refine Le.tup ?_ | refine Le.fn ?_ ?_ | refine Le.spt ?_ | exact Le.any _)), hAH⟩, ?_⟩
        cbv
        refine ⟨fun h0 => ?_, fun h0 => ?_⟩
        rotate_left
        · cbv
          exfalso
          have h0 : isA A.h A.i A.i = false := h0.out
          rw [F.self] at h0; cases h0
        cbv
        refine ⟨fun h0 => ?_, fun h0 => ?_⟩
        rotate_left
        · cbv
          exfalso
          have h0 : eqB (addM dgW A.h ⟨A.i, pars, x.w.tree, x.w.no⟩).e 0 = false := h0.out
          rw [hag] at h0; cases h0
        cbv
        refine ⟨fun h0 => ?_, fun h0 => ?_⟩
        rotate_left
        · cbv
          exfalso
          have h0 : eqB (addM dgW A.h ⟨A.i, pars, x.w.tree, x.w.no⟩).i A.i = false := h0.out
          rw [hag] at h0; simp [eqB] at h0
        cbv
        refine ⟨⟨A.h, A.h⟩, ⟨.cons (.sl (by rw [hag])) (.cons (.sl rfl) .nil), hAH⟩, ?_⟩
        cbv
        refine ⟨fun h0 => ?_, fun h0 => ?_⟩
        rotate_left
        · cbv
          exfalso
          have h0 : (A.h == A.h) = false := h0.out
          simp at h0
        cbv
        exact ⟨.refl _⟩

    · clear h8
      cbv
      refine Sat.loopD ctx23_ok ctx23_inl (lv := 2) (by kernel_rfl) 3 10 [] (fun j : Nat => [(10, .i .u64 (fun _ => y)), (11, .b (fun _ => (eqB y A.i || (pars.take j).any (fun p => isA A.h y p)))), (12, .i .i64 (fun _ => (j : Int)))]) (fun j => [(1, .fix 43 [.i .u64 (fun _ => A.i), .sl 1 cU64 (fun _ => pars), .i .u64 (fun _ => x.w.tree), .i .i64 (fun _ => x.w.no)]), (2, .fix 46 [.sl 4 cCm (fun _ => A.h), .i .u64 (fun _ => A.i), .i .i64 (fun _ => A.e)])])
        (fun j => j ≤ pars.length) (fun j => pars.length - j) 0 (by ((try cbv) <;> (repeat' (first | with_reducible exact trivial | with_reducible refine And.intro ?_ ?_)) <;> (try first | exact SlotLe.refl _ | exact SlotLe.dyn rfl | exact SlotLe.map rfl | exact SlotLe.iter rfl rfl (.inl rfl) | exact SlotLe.iter rfl rfl (.inr rfl) | refine SlotLe.fix ?_ | refine SlotLe.dyn ?_) <;> ((repeat' first | exact LeL.nil | exact Le.refl _ | refine LeL.cons ?_ ?_ | exact Le.ic rfl | exact Le.bc rfl | exact Le.i rfl | exact Le.b rfl | exact Le.sl rfl | exact Le.mp rfl | exact Le.csl rfl | exact Le.cslsl rfl | exact Le.nils rfl (fun _ => ⟨trivial, trivial⟩) | refine Le.lst rfl (fun _ _ => rfl) (fun _ => ⟨trivial, trivial⟩) ?_ | refine Le.lst rfl (fun _ _ => rfl) (fun _ => ⟨fun _ => ⟨trivial, trivial⟩, trivial⟩) ?_ | exact Le.nils rfl (fun _ => ⟨fun _ => ⟨trivial, trivial⟩, trivial⟩) | exact Le.nils rfl (fun x => (cCm_ok x).1) | refine Le.lst rfl (fun _ _ => rfl) (fun x => (cCm_ok x).1) ?_ | refine Le.agg ?_ | refine Le.tup ?_ | refine Le.fn ?_ ?_ | refine Le.spt ?_ | exact Le.any _))) <;> first | exact .i hy.symm | exact .b (by show eqB (pickM h x.c) (addM dgW h ⟨x.w.id, pars, x.w.tree, x.w.no⟩).i = (eqB y A.i || false); rw [← hy, ← hA, Bool.or_false])) (by ((try cbv) <;> (repeat' (first | with_reducible exact trivial | with_reducible refine And.intro ?_ ?_)) <;> (try first | exact SlotLe.refl _ | exact SlotLe.dyn rfl | exact SlotLe.map rfl | exact SlotLe.iter rfl rfl (.inl rfl) | exact SlotLe.iter rfl rfl (.inr rfl) | refine SlotLe.fix ?_ | refine SlotLe.dyn ?_) <;> ((repeat' first | exact LeL.nil | exact Le.refl _ | refine LeL.cons ?_ ?_ | exact Le.ic rfl | exact Le.bc rfl | exact Le.i rfl | exact Le.b rfl | exact Le.sl rfl | exact Le.mp rfl | exact Le.csl rfl | exact Le.cslsl rfl | exact Le.nils rfl (fun _ => ⟨trivial, trivial⟩) | refine Le.lst rfl (fun _ _ => rfl) (fun _ => ⟨trivial, trivial⟩) ?_ | refine Le.lst rfl (fun _ _ => rfl) (fun _ => ⟨fun _ => ⟨trivial, trivial⟩, trivial⟩) ?_ | exact Le.nils rfl (fun _ => ⟨fun _ => ⟨trivial, trivial⟩, trivial⟩) | exact Le.nils rfl (fun x => (cCm_ok x).1) | refine Le.lst rfl (fun _ _ => rfl) (fun x => (cCm_ok x).1) ?_ | refine Le.agg ?_ | refine Le.tup ?_ | refine Le.fn ?_ ?_ | refine Le.spt ?_ | exact Le.any _))) <;> first | exact .i (by rw [hA]) | exact .sl (by rw [hA])) (by omega) ?_
      intro j hj
      cbv
      refine ⟨fun h9 => ?_, fun h9 => ?_⟩
      · have h9 := h9.out
        have hltj : j < pars.length := by simp [ltB] at h9; ((try simp only [Go.Vc.natc] at *); omega)
        obtain ⟨vp, hvp⟩ : ∃ v, pars[j]? = some v := ⟨_, List.getElem?_eq_getElem hltj⟩
        have nx := any_next (p := fun p => isA A.h y p) hvp
        have hj2 : 0 ≤ (j : Int) := Int.natCast_nonneg j
        cbv
        refine ⟨fun hC => ?_, fun hC => ?_⟩
        · have hC : (eqB y A.i || (pars.take j).any (fun p => isA A.h y p)) = true := hC.out
          have nx1 : true = (eqB y A.i || (pars.take (j + 1)).any (fun p => isA A.h y p)) := by rw [nx, ← Bool.or_assoc, hC]; rfl
          cbv
          refine ⟨j + 1, by ((try cbv) <;> (repeat' (first | with_reducible exact trivial | with_reducible refine And.intro ?_ ?_)) <;> (try first | exact SlotLe.refl _ | exact SlotLe.dyn rfl | exact SlotLe.map rfl | exact SlotLe.iter rfl rfl (.inl rfl) | exact SlotLe.iter rfl rfl (.inr rfl) | refine SlotLe.fix ?_ | refine SlotLe.dyn ?_) <;> ((repeat' first | exact LeL.nil | exact Le.refl _ | refine LeL.cons ?_ ?_ | exact Le.ic rfl | exact Le.bc rfl | exact Le.i rfl | exact Le.b rfl | exact Le.sl rfl | exact Le.mp rfl | exact Le.csl rfl | exact Le.cslsl rfl | exact Le.nils rfl (fun _ => ⟨trivial, trivial⟩) | refine Le.lst rfl (fun _ _ => rfl) (fun _ => ⟨trivial, trivial⟩) ?_ | refine Le.lst rfl (fun _ _ => rfl) (fun _ => ⟨fun _ => ⟨trivial, trivial⟩, trivial⟩) ?_ | exact Le.nils rfl (fun _ => ⟨fun _ => ⟨trivial, trivial⟩, trivial⟩) | exact Le.nils rfl (fun x => (cCm_ok x).1) | refine Le.lst rfl (fun _ _ => rfl) (fun x => (cCm_ok x).1) ?_ | refine Le.agg ?_ | refine Le.tup ?_ | refine Le.fn ?_ ?_ | refine Le.spt ?_ | exact Le.any _))) <;> first | exact .bc nx1 | (refine .i ?_; show IntKind.i64.wrap ((j : Int) + 1) = ((j + 1 : Nat) : Int); rw [w64 (by omega) (by omega)]; rfl), by ((try cbv) <;> (repeat' (first | with_reducible exact trivial | with_reducible refine And.intro ?_ ?_)) <;> (try first | exact SlotLe.refl _ | exact SlotLe.dyn rfl | exact SlotLe.map rfl | exact SlotLe.iter rfl rfl (.inl rfl) | exact SlotLe.iter rfl rfl (.inr rfl) | refine SlotLe.fix ?_ | refine SlotLe.dyn ?_) <;> ((repeat' first | exact LeL.nil | exact Le.refl _ | refine LeL.cons ?_ ?_ | exact Le.ic rfl | exact Le.bc rfl | exact Le.i rfl | exact Le.b rfl | exact Le.sl rfl | exact Le.mp rfl | exact Le.csl rfl | exact Le.cslsl rfl | exact Le.nils rfl (fun _ => ⟨trivial, trivial⟩) | refine Le.lst rfl (fun _ _ => rfl) (fun _ => ⟨trivial, trivial⟩) ?_ | refine Le.lst rfl (fun _ _ => rfl) (fun _ => ⟨fun _ => ⟨trivial, trivial⟩, trivial⟩) ?_ | exact Le.nils rfl (fun _ => ⟨fun _ => ⟨trivial, trivial⟩, trivial⟩) | exact Le.nils rfl (fun x => (cCm_ok x).1) | refine Le.lst rfl (fun _ _ => rfl) (fun x => (cCm_ok x).1) ?_ | refine Le.agg ?_ | refine Le.tup ?_ | refine Le.fn ?_ ?_ | refine Le.spt ?_ | exact Le.any _))), ⟨by show j + 1 ≤ pars.length ∧ pars.length - (j + 1) < pars.length - j; omega⟩⟩
        · have hC : (eqB y A.i || (pars.take j).any (fun p => isA A.h y p)) = false := hC.out
          have nx1 : isA A.h y vp = (eqB y A.i || (pars.take (j + 1)).any (fun p => isA A.h y p)) := by rw [nx, ← Bool.or_assoc, hC]; rfl
          cbv
          refine ⟨vp, ⟨hj2, hvp⟩, ?_⟩
          cbv
          refine ⟨⟨A.h, y, vp⟩, ⟨by ((repeat' first | exact LeL.nil | exact Le.refl _ | refine LeL.cons ?_ ?_ | exact Le.ic rfl | exact Le.bc rfl | exact Le.i rfl | exact Le.b rfl | exact Le.sl rfl | exact Le.mp rfl | exact Le.csl rfl | exact Le.cslsl rfl | exact Le.nils rfl (fun _ => ⟨trivial, trivial⟩) | refine Le.lst rfl (fun _ _ => rfl) (fun _ => ⟨trivial, trivial⟩) ?_ | refine Le.lst rfl (fun _ _ => rfl) (fun _ => ⟨fun _ => ⟨trivial, trivial⟩, trivial⟩) ?_ | exact Le.nils rfl (fun _ => ⟨fun _ => ⟨trivial, trivial⟩, trivial⟩) | exact Le.nils rfl (fun x => (cCm_ok x).1) | refine Le.lst rfl (fun _ _ => rfl) (fun x => (cCm_ok x).1) ?_ | refine Le.agg ?_ | refine Le.tup ?_ | refine Le.fn ?_ ?_ | refine Le.spt ?_ | exact Le.any _)), hAH⟩, ?_⟩
          cbv

          refine ⟨j + 1, by ((try cbv) <;> (repeat' (first | with_reducible exact trivial | with_reducible refine And.intro ?_ ?_)) <;> (try first | exact SlotLe.refl _ | exact SlotLe.dyn rfl | exact SlotLe.map rfl | exact SlotLe.iter rfl rfl (.inl rfl) | exact SlotLe.iter rfl rfl (.inr rfl) | refine SlotLe.fix ?_ | refine SlotLe.dyn ?_) <;> ((repeat' first | exact LeL.nil | exact Le.refl _ | refine LeL.cons ?_ ?_ | exact Le.ic rfl | exact Le.bc rfl | exact Le.i rfl | exact Le.b rfl | exact Le.sl rfl | exact Le.mp rfl | exact Le.csl rfl | exact Le.cslsl rfl | exact Le.nils rfl (fun _ => ⟨trivial, trivial⟩) | refine Le.lst rfl (fun _ _ => rfl) (fun _ => ⟨trivial, trivial⟩) ?_ | refine Le.lst rfl (fun _ _ => rfl) (fun _ => ⟨fun _ => ⟨trivial, trivial⟩, trivial⟩) ?_ | exact Le.nils rfl (fun _ => ⟨fun _ => ⟨trivial, trivial⟩, trivial⟩) | exact Le.nils rfl (fun x => (cCm_ok x).1) | refine Le.lst rfl (fun _ _ => rfl) (fun x => (cCm_ok x).1) ?_ | refine Le.agg ?_ | refine Le.tup ?_ | refine Le.fn ?_ ?_ | refine Le.spt ?_ | exact Le.any _))) <;> first | exact .b nx1 | (refine .i ?_; show IntKind.i64.wrap ((j : Int) + 1) = ((j + 1 : Nat) : Int); rw [w64 (by omega) (by omega)]; rfl), by ((try cbv) <;> (repeat' (first | with_reducible exact trivial | with_reducible refine And.intro ?_ ?_)) <;> (try first | exact SlotLe.refl _ | exact SlotLe.dyn rfl | exact SlotLe.map rfl | exact SlotLe.iter rfl rfl (.inl rfl) | exact SlotLe.iter rfl rfl (.inr rfl) | refine SlotLe.fix ?_ | refine SlotLe.dyn ?_) <;> ((repeat' first | exact LeL.nil | exact Le.refl _ | refine LeL.cons ?_ ?_ | exact Le.ic rfl | exact Le.bc rfl | exact Le.i rfl | exact Le.b rfl | exact Le.sl rfl | exact Le.mp rfl | exact Le.csl rfl | exact Le.cslsl rfl | exact Le.nils rfl (fun _ => ⟨trivial, trivial⟩) | refine Le.lst rfl (fun _ _ => rfl) (fun _ => ⟨trivial, trivial⟩) ?_ | refine Le.lst rfl (fun _ _ => rfl) (fun _ => ⟨fun _ => ⟨trivial, trivial⟩, trivial⟩) ?_ | exact Le.nils rfl (fun _ => ⟨fun _ => ⟨trivial, trivial⟩, trivial⟩) | exact Le.nils rfl (fun x => (cCm_ok x).1) | refine Le.lst rfl (fun _ _ => rfl) (fun x => (cCm_ok x).1) ?_ | refine Le.agg ?_ | refine Le.tup ?_ | refine Le.fn ?_ ?_ | refine Le.spt ?_ | exact Le.any _))), ⟨by show j + 1 ≤ pars.length ∧ pars.length - (j + 1) < pars.length - j; omega⟩⟩
      have h9 := h9.out
      have hltj : ¬ j < pars.length := by simp [ltB] at h9; ((try simp only [Go.Vc.natc] at *); omega)
      have ht : pars.take j = pars := List.take_of_length_le (by omega)
      have hab : ∀ q : Bool, (eqB y A.i || (pars.take j).any (fun p => isA A.h y p)) = q → isA A.h y A.i = (q && has A.h y) := fun q hq => by
        rw [hup, ← hq, ht]
        congr 2
      have hhas : leB 0 (idx A.h y) = has A.h y := by
        have := idx_neg A.h y
        cases q : has A.h y with
        | true => have := has_lt q; simp [leB]; omega
        | false => have := this.2 q; simp [leB]; omega
      have hag : (addM dgW A.h ⟨A.i, pars, x.w.tree, x.w.no⟩) = ⟨A.h, A.i, 0⟩ := F.again
      cbv
      refine ⟨⟨A.h, ⟨A.i, pars, x.w.tree, x.w.no⟩⟩, ⟨by ((repeat' first | exact LeL.nil | exact Le.refl _ | refine LeL.cons ?_ ?_ | exact Le.ic rfl | exact Le.bc rfl | exact Le.i rfl | exact Le.b rfl | exact Le.sl rfl | exact Le.mp rfl | exact Le.csl rfl | exact Le.cslsl rfl | exact Le.nils rfl (fun _ => ⟨trivial, trivial⟩) | refine Le.lst rfl (fun _ _ => rfl) (fun _ => ⟨trivial, trivial⟩) ?_ | refine Le.lst rfl (fun _ _ => rfl) (fun _ => ⟨fun _ => ⟨trivial, trivial⟩, trivial⟩) ?_ | exact Le.nils rfl (fun _ => ⟨fun _ => ⟨trivial, trivial⟩, trivial⟩) | exact Le.nils rfl (fun x => (cCm_ok x).1) | refine Le.lst rfl (fun _ _ => rfl) (fun x => (cCm_ok x).1) ?_ | refine Le.agg ?_ | refine Le.tup ?_ | refine Le.fn ?_ ?_ | refine Le.spt ?_ | exact Le.any _)), ⟨hAH, by show pars.length ≤ 1000000; omega⟩⟩, ?_⟩
      cbv
      refine ⟨⟨A.h, y, A.i⟩, ⟨by ((repeat' first | exact LeL.nil | exact Le.refl _ | refine LeL.cons ?_ ?_ | exact Le.ic rfl | exact Le.bc rfl | exact Le.i rfl | exact Le.b rfl | exact Le.sl rfl | exact Le.mp rfl | exact Le.csl rfl | exact Le.cslsl rfl | exact Le.nils rfl (fun _ => ⟨trivial, trivial⟩) | refine Le.lst rfl (fun _ _ => rfl) (fun _ => ⟨trivial, trivial⟩) ?_ | refine Le.lst rfl (fun _ _ => rfl) (fun _ => ⟨fun _ => ⟨trivial, trivial⟩, trivial⟩) ?_ | exact Le.nils rfl (fun _ => ⟨fun _ => ⟨trivial, trivial⟩, trivial⟩) | exact Le.nils rfl (fun x => (cCm_ok x).1) | refine Le.lst rfl (fun _ _ => rfl) (fun x => (cCm_ok x).1) ?_ | refine Le.agg ?_ | refine Le.tup ?_ | refine Le.fn ?_ ?_ | refine Le.spt ?_ | exact Le.any _)), hAH⟩, ?_⟩
      cbv

      refine ⟨fun hC => ?_, fun hC => ?_⟩
      · have hC := hab true hC.out
        have hq : (isA A.h y A.i == leB 0 (idx A.h y)) = true := by rw [hC, hhas]; simp
        cbv
        refine ⟨⟨A.h, y⟩, ⟨by ((repeat' first | exact LeL.nil | exact Le.refl _ | refine LeL.cons ?_ ?_ | exact Le.ic rfl | exact Le.bc rfl | exact Le.i rfl | exact Le.b rfl | exact Le.sl rfl | exact Le.mp rfl | exact Le.csl rfl | exact Le.cslsl rfl | exact Le.nils rfl (fun _ => ⟨trivial, trivial⟩) | refine Le.lst rfl (fun _ _ => rfl) (fun _ => ⟨trivial, trivial⟩) ?_ | refine Le.lst rfl (fun _ _ => rfl) (fun _ => ⟨fun _ => ⟨trivial, trivial⟩, trivial⟩) ?_ | exact Le.nils rfl (fun _ => ⟨fun _ => ⟨trivial, trivial⟩, trivial⟩) | exact Le.nils rfl (fun x => (cCm_ok x).1) | refine Le.lst rfl (fun _ _ => rfl) (fun x => (cCm_ok x).1) ?_ | refine Le.agg ?_ | refine Le.tup ?_ | refine Le.fn ?_ ?_ | refine Le.spt ?_ | exact Le.any _)), hAle⟩, ?_⟩
        cbv
        refine ⟨fun h0 => ?_, fun h0 => ?_⟩
        rotate_left
        · cbv
          exfalso
          have h0 : (isA A.h y A.i == leB 0 (idx A.h y)) = false := h0.out
          rw [hq] at h0; cases h0
        cbv
        refine ⟨⟨A.h, A.i, A.i⟩, ⟨by ((repeat' first | exact LeL.nil | exact Le.refl _ | refine LeL.cons ?_ ?_ | exact Le.ic rfl | exact Le.bc rfl | exact Le.i rfl | exact Le.b rfl | exact Le.sl rfl | exact Le.mp rfl | exact Le.csl rfl | exact Le.cslsl rfl | exact Le.nils rfl (fun _ => ⟨trivial, trivial⟩) | refine Le.lst rfl (fun _ _ => rfl) (fun _ => ⟨trivial, trivial⟩) ?_ | refine Le.lst rfl (fun _ _ => rfl) (fun _ => ⟨fun _ => ⟨trivial, trivial⟩, trivial⟩) ?_ | exact Le.nils rfl (fun _ => ⟨fun _ => ⟨trivial, trivial⟩, trivial⟩) | exact Le.nils rfl (fun x => (cCm_ok x).1) | refine Le.lst rfl (fun _ _ => rfl) (fun x => (cCm_ok x).1) ?_ | refine Le.agg ?_ | refine Le.tup ?_ | refine Le.fn ?_ ?_ | refine Le.spt ?_ | exact Le.any _)), hAH⟩, ?_⟩
        cbv
        refine ⟨fun h0 => ?_, fun h0 => ?_⟩
        rotate_left
        · cbv
          exfalso
          have h0 : isA A.h A.i A.i = false := h0.out
          rw [F.self] at h0; cases h0
        cbv
        refine ⟨fun h0 => ?_, fun h0 => ?_⟩
        rotate_left
        · cbv
          exfalso
          have h0 : eqB (addM dgW A.h ⟨A.i, pars, x.w.tree, x.w.no⟩).e 0 = false := h0.out
          rw [hag] at h0; cases h0
        cbv
        refine ⟨fun h0 => ?_, fun h0 => ?_⟩
        rotate_left
        · cbv
          exfalso
          have h0 : eqB (addM dgW A.h ⟨A.i, pars, x.w.tree, x.w.no⟩).i A.i = false := h0.out
          rw [hag] at h0; simp [eqB] at h0
        cbv
        refine ⟨⟨A.h, A.h⟩, ⟨.cons (.sl (by rw [hag])) (.cons (.sl rfl) .nil), hAH⟩, ?_⟩
        cbv
        refine ⟨fun h0 => ?_, fun h0 => ?_⟩
        rotate_left
        · cbv
          exfalso
          have h0 : (A.h == A.h) = false := h0.out
          simp at h0
        cbv
        exact ⟨.refl _⟩

      · have hC := hab false hC.out
        have hq : (isA A.h y A.i == false) = true := by rw [hC]; rfl
        cbv
        refine ⟨fun h0 => ?_, fun h0 => ?_⟩
        rotate_left
        · cbv
          exfalso
          have h0 : (isA A.h y A.i == false) = false := h0.out
          rw [hq] at h0; cases h0
        cbv
        refine ⟨⟨A.h, A.i, A.i⟩, ⟨by ((repeat' first | exact LeL.nil | exact Le.refl _ | refine LeL.cons ?_ ?_ | exact Le.ic rfl | exact Le.bc rfl | exact Le.i rfl | exact Le.b rfl | exact Le.sl rfl | exact Le.mp rfl | exact Le.csl rfl | exact Le.cslsl rfl | exact Le.nils rfl (fun _ => ⟨trivial, trivial⟩) | refine Le.lst rfl (fun _ _ => rfl) (fun _ => ⟨trivial, trivial⟩) ?_ | refine Le.lst rfl (fun _ _ => rfl) (fun _ => ⟨fun _ => ⟨trivial, trivial⟩, trivial⟩) ?_ | exact Le.nils rfl (fun _ => ⟨fun _ => ⟨trivial, trivial⟩, trivial⟩) | exact Le.nils rfl (fun x => (cCm_ok x).1) | refine Le.lst rfl (fun _ _ => rfl) (fun x => (cCm_ok x).1) ?_ | refine Le.agg ?_ | refine Le.tup ?_ | refine Le.fn ?_ ?_ | refine Le.spt ?_ | exact Le.any _)), hAH⟩, ?_⟩
        cbv
        refine ⟨fun h0 => ?_, fun h0 => ?_⟩
        rotate_left
        · cbv
          exfalso
          have h0 : isA A.h A.i A.i = false := h0.out
          rw [F.self] at h0; cases h0
        cbv
        refine ⟨fun h0 => ?_, fun h0 => ?_⟩
        rotate_left
        · cbv
          exfalso
          have h0 : eqB (addM dgW A.h ⟨A.i, pars, x.w.tree, x.w.no⟩).e 0 = false := h0.out
          rw [hag] at h0; cases h0
        cbv
        refine ⟨fun h0 => ?_, fun h0 => ?_⟩
        rotate_left
        · cbv
          exfalso
          have h0 : eqB (addM dgW A.h ⟨A.i, pars, x.w.tree, x.w.no⟩).i A.i = false := h0.out
          rw [hag] at h0; simp [eqB] at h0
        cbv
        refine ⟨⟨A.h, A.h⟩, ⟨.cons (.sl (by rw [hag])) (.cons (.sl rfl) .nil), hAH⟩, ?_⟩
        cbv
        refine ⟨fun h0 => ?_, fun h0 => ?_⟩
        rotate_left
        · cbv
          exfalso
          have h0 : (A.h == A.h) = false := h0.out
          simp at h0
        cbv
        exact ⟨.refl _⟩


end Go.Proofs.Hist
