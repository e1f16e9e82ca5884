/-
  The histories' functions: additions of the reference, growth
-/
import Derived.Test.YtpbechemimnikaaHisD
set_option linter.unusedVariables false
set_option linter.unusedSimpArgs false
set_option maxRecDepth 10000
set_option maxHeartbeats 8000000
namespace Go.Proofs.Hist
open Go Go.Vc

noncomputable def sp6 : List (Nat × Vc.Spec) := (63, SameCS) :: (23, SameS) :: (21, ValidS) :: sp5
theorem sp6_ok : All (fun f S => SpecOk (PP ()) f S) sp6 := ⟨SameH_ok, Same_ok, RValid_ok, sp5_ok⟩
noncomputable def ctx6 : Ctx := { tt := tt, el := el, sp := fun f => tab sp6 f, inl := fun f => tab inl1 f }
theorem ctx6_ok : ctx6.Ok (PP ()) := ⟨tt_ok, el_ok ctx6 rfl, tab_all sp6_ok, fun f fn h => (tab_all inl1_ok f fn h).1, mixed⟩
theorem ctx6_inl : InlOk ctx6 := fun f fn h => (tab_all inl1_ok f fn h).2

theorem addM_arg {h : List Cm} {c : Cm} (e : fine c.par = false) : addM dgW h c = ⟨[], 0, 1⟩ := by unfold addM; rw [if_pos e]
theorem addM_none {h : List Cm} {c : Cm} (e : fine c.par = true) (e2 : c.par.all (has h) = false) : addM dgW h c = ⟨[], 0, 4⟩ := by
  unfold addM; rw [if_neg (by simp [e]), if_pos e2]
theorem addM_old {h : List Cm} {c : Cm} (e : fine c.par = true) (e2 : c.par.all (has h) = true) (e3 : has h (dgW c) = true) : addM dgW h c = ⟨h, dgW c, 0⟩ := by
  unfold addM; rw [if_neg (by simp [e]), if_neg (by simp [e2]), if_pos e3]
theorem addM_big {h : List Cm} {c : Cm} (e : fine c.par = true) (e2 : c.par.all (has h) = true) (e3 : has h (dgW c) = false) (e4 : 500 ≤ h.length) : addM dgW h c = ⟨[], 0, 2⟩ := by
  unfold addM; rw [if_neg (by simp [e]), if_neg (by simp [e2]), if_neg (by simp [e3]), if_pos e4]
theorem addM_new {h : List Cm} {c : Cm} (e : fine c.par = true) (e2 : c.par.all (has h) = true) (e3 : has h (dgW c) = false) (e4 : ¬ 500 ≤ h.length) : addM dgW h c = ⟨h ++ [{ c with id := dgW c }], dgW c, 0⟩ := by
  unfold addM; rw [if_neg (by simp [e]), if_neg (by simp [e2]), if_neg (by simp [e3]), if_neg e4]
def Ad.cells (a : Unit → Ad) : List SV := [.sl 4 cCm (fun _ => (a ()).h), .i .u64 (fun _ => (a ()).i), .i .i64 (fun _ => (a ()).e)]
structure HC where
  h : List Cm
  c : Cm
structure HCok (x : HC) : Prop where
  h : Hs x.h
  c : x.c.par.length ≤ 1000000
noncomputable def AddS : Vc.Spec where
  α := HC
  args x := [.sl 4 cCm (fun _ => x.h), .agg (Cm.cells fun _ => x.c)]
  pre x := HCok x
  res x := .agg (Ad.cells fun _ => addM dgW x.h x.c)
theorem AddIn_ok : SpecOk (PP ()) 29 AddS := by
  refine spec_of_vc (lv := 2) ctx6_ok ctx6_inl (fnOk_of Try.func29 (by kernel_rfl)) (by kernel_rfl) (fun a => by simp [AddS, LFL, LF, cU64, cCm, Cm.cells, Ad.cells]) (fun a => by simp [AddS, LFL, LF, cU64, cCm, Cm.cells, Ad.cells]) ?_
  intro x hx
  have H : Hs x.h := hx.h
  have hh := H.n
  have hc : x.c.par.length ≤ 1000000 := hx.c
  refine ⟨?_⟩
  cbv
  refine ⟨x.c.par, ⟨by ((repeat' first | exact LeL.nil | exact Le.refl _ | refine LeL.cons ?_ ?_ | exact Le.ic rfl | exact Le.bc rfl | exact Le.i rfl | exact Le.b rfl | exact Le.sl rfl | exact Le.mp rfl | exact Le.csl rfl | exact Le.cslsl rfl | exact Le.nils rfl (fun _ => ⟨trivial, trivial⟩) | refine Le.lst rfl (fun _ _ => rfl) (fun _ => ⟨trivial, trivial⟩) ?_ | refine Le.lst rfl (fun _ _ => rfl) (fun _ => ⟨fun _ => ⟨trivial, trivial⟩, trivial⟩) ?_ | exact Le.nils rfl (fun _ => ⟨fun _ => ⟨trivial, trivial⟩, trivial⟩) | exact Le.nils rfl (fun x => (cCm_ok x).1) | refine Le.lst rfl (fun _ _ => rfl) (fun x => (cCm_ok x).1) ?_ | refine Le.agg ?_ | refine Le.tup ?_ | refine Le.fn ?_ ?_ | refine Le.spt ?_ | exact Le.any _)), trivial⟩, ?_⟩
  cbv
  refine ⟨fun h => ?_, fun h => ?_⟩
  · have h := h.out
    have e := addM_arg (h := x.h) (c := x.c) (by simpa using h)
    cbv
    refine ⟨.agg ?_⟩
    rw [e]
    ((repeat' first | exact LeL.nil | exact Le.refl _ | refine LeL.cons ?_ ?_ | exact Le.ic rfl | exact Le.bc rfl | exact Le.i rfl | exact Le.b rfl | exact Le.sl rfl | exact Le.mp rfl | exact Le.csl rfl | exact Le.cslsl rfl | exact Le.nils rfl (fun _ => ⟨trivial, trivial⟩) | refine Le.lst rfl (fun _ _ => rfl) (fun _ => ⟨trivial, trivial⟩) ?_ | refine Le.lst rfl (fun _ _ => rfl) (fun _ => ⟨fun _ => ⟨trivial, trivial⟩, trivial⟩) ?_ | exact Le.nils rfl (fun _ => ⟨fun _ => ⟨trivial, trivial⟩, trivial⟩) | exact Le.nils rfl (fun x => (cCm_ok x).1) | refine Le.lst rfl (fun _ _ => rfl) (fun x => (cCm_ok x).1) ?_ | refine Le.agg ?_ | refine Le.tup ?_ | refine Le.fn ?_ ?_ | refine Le.spt ?_ | exact Le.any _))
  · have h := h.out
    have hf : fine x.c.par = true := by simpa using h
    cbv
    refine ⟨⟨x.h, x.c.par⟩, ⟨by ((repeat' first | exact LeL.nil | exact Le.refl _ | refine LeL.cons ?_ ?_ | exact Le.ic rfl | exact Le.bc rfl | exact Le.i rfl | exact Le.b rfl | exact Le.sl rfl | exact Le.mp rfl | exact Le.csl rfl | exact Le.cslsl rfl | exact Le.nils rfl (fun _ => ⟨trivial, trivial⟩) | refine Le.lst rfl (fun _ _ => rfl) (fun _ => ⟨trivial, trivial⟩) ?_ | refine Le.lst rfl (fun _ _ => rfl) (fun _ => ⟨fun _ => ⟨trivial, trivial⟩, trivial⟩) ?_ | exact Le.nils rfl (fun _ => ⟨fun _ => ⟨trivial, trivial⟩, trivial⟩) | exact Le.nils rfl (fun x => (cCm_ok x).1) | refine Le.lst rfl (fun _ _ => rfl) (fun x => (cCm_ok x).1) ?_ | refine Le.agg ?_ | refine Le.tup ?_ | refine Le.fn ?_ ?_ | refine Le.spt ?_ | exact Le.any _)), ⟨by show x.h.length < _; omega, by show x.c.par.length < _; omega⟩⟩, ?_⟩
    cbv
    refine ⟨fun h => ?_, fun h => ?_⟩
    · have h := h.out
      have e := addM_none (h := x.h) hf (by simpa using h)
      cbv
      refine ⟨.agg ?_⟩
      rw [e]
      ((repeat' first | exact LeL.nil | exact Le.refl _ | refine LeL.cons ?_ ?_ | exact Le.ic rfl | exact Le.bc rfl | exact Le.i rfl | exact Le.b rfl | exact Le.sl rfl | exact Le.mp rfl | exact Le.csl rfl | exact Le.cslsl rfl | exact Le.nils rfl (fun _ => ⟨trivial, trivial⟩) | refine Le.lst rfl (fun _ _ => rfl) (fun _ => ⟨trivial, trivial⟩) ?_ | refine Le.lst rfl (fun _ _ => rfl) (fun _ => ⟨fun _ => ⟨trivial, trivial⟩, trivial⟩) ?_ | exact Le.nils rfl (fun _ => ⟨fun _ => ⟨trivial, trivial⟩, trivial⟩) | exact Le.nils rfl (fun x => (cCm_ok x).1) | refine Le.lst rfl (fun _ _ => rfl) (fun x => (cCm_ok x).1) ?_ | refine Le.agg ?_ | refine Le.tup ?_ | refine Le.fn ?_ ?_ | refine Le.spt ?_ | exact Le.any _))
    · have h := h.out
      have hk : x.c.par.all (has x.h) = true := by simpa using h
      obtain ⟨d, hd⟩ : ∃ d, d = dgW x.c := ⟨_, rfl⟩
      cbv
      refine ⟨x.c, ⟨by ((repeat' first | exact LeL.nil | exact Le.refl _ | refine LeL.cons ?_ ?_ | exact Le.ic rfl | exact Le.bc rfl | exact Le.i rfl | exact Le.b rfl | exact Le.sl rfl | exact Le.mp rfl | exact Le.csl rfl | exact Le.cslsl rfl | exact Le.nils rfl (fun _ => ⟨trivial, trivial⟩) | refine Le.lst rfl (fun _ _ => rfl) (fun _ => ⟨trivial, trivial⟩) ?_ | refine Le.lst rfl (fun _ _ => rfl) (fun _ => ⟨fun _ => ⟨trivial, trivial⟩, trivial⟩) ?_ | exact Le.nils rfl (fun _ => ⟨fun _ => ⟨trivial, trivial⟩, trivial⟩) | exact Le.nils rfl (fun x => (cCm_ok x).1) | refine Le.lst rfl (fun _ _ => rfl) (fun x => (cCm_ok x).1) ?_ | refine Le.agg ?_ | refine Le.tup ?_ | refine Le.fn ?_ ?_ | refine Le.spt ?_ | exact Le.any _)), hc⟩, ?_⟩
      cbv
      refine ⟨⟨x.h, d⟩, ⟨by rw [hd]; ((repeat' first | exact LeL.nil | exact Le.refl _ | refine LeL.cons ?_ ?_ | exact Le.ic rfl | exact Le.bc rfl | exact Le.i rfl | exact Le.b rfl | exact Le.sl rfl | exact Le.mp rfl | exact Le.csl rfl | exact Le.cslsl rfl | exact Le.nils rfl (fun _ => ⟨trivial, trivial⟩) | refine Le.lst rfl (fun _ _ => rfl) (fun _ => ⟨trivial, trivial⟩) ?_ | refine Le.lst rfl (fun _ _ => rfl) (fun _ => ⟨fun _ => ⟨trivial, trivial⟩, trivial⟩) ?_ | exact Le.nils rfl (fun _ => ⟨fun _ => ⟨trivial, trivial⟩, trivial⟩) | exact Le.nils rfl (fun x => (cCm_ok x).1) | refine Le.lst rfl (fun _ _ => rfl) (fun x => (cCm_ok x).1) ?_ | refine Le.agg ?_ | refine Le.tup ?_ | refine Le.fn ?_ ?_ | refine Le.spt ?_ | exact Le.any _)), by show x.h.length < _; omega⟩, ?_⟩
      cbv
      refine ⟨fun h => ?_, fun h => ?_⟩
      · have h := h.out
        have e2 : ¬ idx x.h d < 0 := by simpa [leB] using h
        have hq : has x.h (dgW x.c) = true := by
          cases q : has x.h d with
          | true => rw [← hd]; exact q
          | false => exact absurd ((idx_neg _ _).2 q) e2
        have e := addM_old hf hk hq
        cbv
        refine ⟨.agg ?_⟩
        rw [e]
        ((repeat' first | exact LeL.nil | exact Le.refl _ | refine LeL.cons ?_ ?_ | exact Le.ic rfl | exact Le.bc rfl | exact Le.i rfl | exact Le.b rfl | exact Le.sl rfl | exact Le.mp rfl | exact Le.csl rfl | exact Le.cslsl rfl | exact Le.nils rfl (fun _ => ⟨trivial, trivial⟩) | refine Le.lst rfl (fun _ _ => rfl) (fun _ => ⟨trivial, trivial⟩) ?_ | refine Le.lst rfl (fun _ _ => rfl) (fun _ => ⟨fun _ => ⟨trivial, trivial⟩, trivial⟩) ?_ | exact Le.nils rfl (fun _ => ⟨fun _ => ⟨trivial, trivial⟩, trivial⟩) | exact Le.nils rfl (fun x => (cCm_ok x).1) | refine Le.lst rfl (fun _ _ => rfl) (fun x => (cCm_ok x).1) ?_ | refine Le.agg ?_ | refine Le.tup ?_ | refine Le.fn ?_ ?_ | refine Le.spt ?_ | exact Le.any _))
      · have h := h.out
        have e2 : idx x.h d < 0 := by simpa [leB] using h
        have hq : has x.h (dgW x.c) = false := by rw [← hd]; exact (idx_neg _ _).1 e2
        cbv
        refine ⟨fun h => ?_, fun h => ?_⟩
        · have h := h.out
          have e := addM_big hf hk hq (by simp [leB] at h; ((try simp only [Go.Vc.natc] at *); omega))
          cbv
          refine ⟨.agg ?_⟩
          rw [e]
          ((repeat' first | exact LeL.nil | exact Le.refl _ | refine LeL.cons ?_ ?_ | exact Le.ic rfl | exact Le.bc rfl | exact Le.i rfl | exact Le.b rfl | exact Le.sl rfl | exact Le.mp rfl | exact Le.csl rfl | exact Le.cslsl rfl | exact Le.nils rfl (fun _ => ⟨trivial, trivial⟩) | refine Le.lst rfl (fun _ _ => rfl) (fun _ => ⟨trivial, trivial⟩) ?_ | refine Le.lst rfl (fun _ _ => rfl) (fun _ => ⟨fun _ => ⟨trivial, trivial⟩, trivial⟩) ?_ | exact Le.nils rfl (fun _ => ⟨fun _ => ⟨trivial, trivial⟩, trivial⟩) | exact Le.nils rfl (fun x => (cCm_ok x).1) | refine Le.lst rfl (fun _ _ => rfl) (fun x => (cCm_ok x).1) ?_ | refine Le.agg ?_ | refine Le.tup ?_ | refine Le.fn ?_ ?_ | refine Le.spt ?_ | exact Le.any _))
        · have h := h.out
          have e := addM_new hf hk hq (by simp [leB] at h; ((try simp only [Go.Vc.natc] at *); omega))
          cbv
          refine ⟨x.h, ⟨by ((repeat' first | exact LeL.nil | exact Le.refl _ | refine LeL.cons ?_ ?_ | exact Le.ic rfl | exact Le.bc rfl | exact Le.i rfl | exact Le.b rfl | exact Le.sl rfl | exact Le.mp rfl | exact Le.csl rfl | exact Le.cslsl rfl | exact Le.nils rfl (fun _ => ⟨trivial, trivial⟩) | refine Le.lst rfl (fun _ _ => rfl) (fun _ => ⟨trivial, trivial⟩) ?_ | refine Le.lst rfl (fun _ _ => rfl) (fun _ => ⟨fun _ => ⟨trivial, trivial⟩, trivial⟩) ?_ | exact Le.nils rfl (fun _ => ⟨fun _ => ⟨trivial, trivial⟩, trivial⟩) | exact Le.nils rfl (fun x => (cCm_ok x).1) | refine Le.lst rfl (fun _ _ => rfl) (fun x => (cCm_ok x).1) ?_ | refine Le.agg ?_ | refine Le.tup ?_ | refine Le.fn ?_ ?_ | refine Le.spt ?_ | exact Le.any _)), by show (0 + x.h.length) * 48 ≤ _; omega, by show 0 + x.h.length ≤ _; omega⟩, ?_⟩
          cbv
          refine ⟨[{ x.c with id := dgW x.c }], ⟨by ((repeat' first | exact LeL.nil | exact Le.refl _ | refine LeL.cons ?_ ?_ | exact Le.ic rfl | exact Le.bc rfl | exact Le.i rfl | exact Le.b rfl | exact Le.sl rfl | exact Le.mp rfl | exact Le.csl rfl | exact Le.cslsl rfl | exact Le.nils rfl (fun _ => ⟨trivial, trivial⟩) | refine Le.lst rfl (fun _ _ => rfl) (fun _ => ⟨trivial, trivial⟩) ?_ | refine Le.lst rfl (fun _ _ => rfl) (fun _ => ⟨fun _ => ⟨trivial, trivial⟩, trivial⟩) ?_ | exact Le.nils rfl (fun _ => ⟨fun _ => ⟨trivial, trivial⟩, trivial⟩) | exact Le.nils rfl (fun x => (cCm_ok x).1) | refine Le.lst rfl (fun _ _ => rfl) (fun x => (cCm_ok x).1) ?_ | refine Le.agg ?_ | refine Le.tup ?_ | refine Le.fn ?_ ?_ | refine Le.spt ?_ | exact Le.any _)), by show (([] ++ x.h : List Cm).length + 1) * 48 ≤ _; rw [List.nil_append]; omega, by show ([] ++ x.h : List Cm).length + 1 ≤ _; rw [List.nil_append]; omega⟩, ?_⟩
          cbv
          refine ⟨.agg ?_⟩
          rw [e]
          ((repeat' first | exact LeL.nil | exact Le.refl _ | refine LeL.cons ?_ ?_ | exact Le.ic rfl | exact Le.bc rfl | exact Le.i rfl | exact Le.b rfl | exact Le.sl rfl | exact Le.mp rfl | exact Le.csl rfl | exact Le.cslsl rfl | exact Le.nils rfl (fun _ => ⟨trivial, trivial⟩) | refine Le.lst rfl (fun _ _ => rfl) (fun _ => ⟨trivial, trivial⟩) ?_ | refine Le.lst rfl (fun _ _ => rfl) (fun _ => ⟨fun _ => ⟨trivial, trivial⟩, trivial⟩) ?_ | exact Le.nils rfl (fun _ => ⟨fun _ => ⟨trivial, trivial⟩, trivial⟩) | exact Le.nils rfl (fun x => (cCm_ok x).1) | refine Le.lst rfl (fun _ _ => rfl) (fun x => (cCm_ok x).1) ?_ | refine Le.agg ?_ | refine Le.tup ?_ | refine Le.fn ?_ ?_ | refine Le.spt ?_ | exact Le.any _))

/-- A byte's range. -/
def B4.ok (b : B4) : Prop := (0 ≤ b.1 ∧ b.1 < 256) ∧ (0 ≤ b.2.1 ∧ b.2.1 < 256) ∧ (0 ≤ b.2.2.1 ∧ b.2.2.1 < 256) ∧ (0 ≤ b.2.2.2.1 ∧ b.2.2.2.1 < 256)
/-- The commit as far back as k says. -/
def back (h : List Cm) (k : Nat) : Int := match h[h.length - 1 - k % h.length]? with
  | some c => c.id
  | none => 0
def mkP (b : B4) (h : List Cm) : List Int :=
  (if 0 < h.length ∧ 20 < b.1 then [back h b.1.toNat] else []) ++ (if 0 < h.length ∧ b.2.1.toNat % 3 = 1 then [back h (b.2.1.toNat / 3)] else [])
def mkC (b : B4) (h : List Cm) : Cm := ⟨0, mkP b h, b.2.2.1, b.2.2.2.1⟩
def mkB (l : List B4) (h : List Cm) (i : Nat) : Cm := match l[i]? with
  | some b => mkC b h
  | none => ⟨0, [], 0, 0⟩
theorem mkB_at {l : List B4} {h : List Cm} {i : Nat} {b : B4} (hb : l[i]? = some b) : mkB l h i = mkC b h := by unfold mkB; rw [hb]
noncomputable def grown (h : List Cm) (l : List B4) : List Cm := growM dgW (mkB l) l.length h 0
theorem Good.par {dg : Cm → Int} {h : List Cm} (G : Good dg h) : ∀ c ∈ h, c.par.length ≤ 2 := by
  induction G with
  | nil => intro c hc; cases hc
  | snoc G h1 h2 h3 h4 h5 ih =>
    intro c hc
    rcases List.mem_append.1 hc with hc | hc
    · exact ih c hc
    · simp at hc; subst hc; exact h3
theorem Good.hs {dg : Cm → Int} {h : List Cm} (G : Good dg h) (hl : h.length ≤ 1000000) : Hs h := ⟨hl, fun c hc => by have := G.par c hc; omega⟩
structure HB where
  h : List Cm
  l : List B4
structure HBok (x : HB) : Prop where
  g : Good dgW x.h
  n : x.h.length + x.l.length ≤ 500
  b : ∀ b ∈ x.l, B4.ok b
noncomputable def GrownS : Vc.Spec where
  α := HB
  args x := [.sl 4 cCm (fun _ => x.h), .sl 4 cB4 (fun _ => x.l)]
  pre x := HBok x
  res x := .sl 4 cCm (fun _ => grown x.h x.l)

noncomputable def sp7 : List (Nat × Vc.Spec) := (29, AddS) :: sp6
theorem sp7_ok : All (fun f S => SpecOk (PP ()) f S) sp7 := ⟨AddIn_ok, sp6_ok⟩
noncomputable def ctx7 : Ctx := { tt := tt, el := el, sp := fun f => tab sp7 f, inl := fun f => tab inl1 f }
theorem ctx7_ok : ctx7.Ok (PP ()) := ⟨tt_ok, el_ok ctx7 rfl, tab_all sp7_ok, fun f fn h => (tab_all inl1_ok f fn h).1, mixed⟩
theorem ctx7_inl : InlOk ctx7 := fun f fn h => (tab_all inl1_ok f fn h).2

noncomputable def ctx7c : Ctx := { ctx7 with cut := fun r => Nat.beq r 9 }
theorem ctx7c_ok : ctx7c.Ok (PP ()) := ⟨tt_ok, el_ok ctx7c rfl, tab_all sp7_ok, fun f fn h => (tab_all inl1_ok f fn h).1, mixed⟩
theorem ctx7c_inl : InlOk ctx7c := fun f fn h => (tab_all inl1_ok f fn h).2

theorem wrap_small {n : Int} (h0 : 0 ≤ n) (h1 : n < 1000000) : IntKind.i64.wrap n = n := w64 (by omega) (by omega)
theorem tmod_nat {a : Nat} {n : Nat} : ((a : Int)).tmod (n : Int) = ((a % n : Nat) : Int) := by
  rw [Int.tmod_eq_emod_of_nonneg (Int.natCast_nonneg _)]
  rfl
theorem back_ix {n : Nat} (hn : 0 < n) (h5 : n ≤ 500) {b : Int} (h0 : 0 ≤ b) (h1 : b < 256) :
    IntKind.i64.wrap (IntKind.i64.wrap ((n : Int) - 1) - (IntKind.i64.wrap b).tmod (n : Int)) = ((n - 1 - b.toNat % n : Nat) : Int) := by
  obtain ⟨k, rfl⟩ : ∃ k : Nat, b = k := ⟨b.toNat, by omega⟩
  rw [wrap_small (n := (k : Int)) h0 (by omega), tmod_nat, wrap_small (n := (n : Int) - 1) (by omega) (by omega)]
  have := Nat.mod_lt k hn
  rw [wrap_small (by omega) (by omega)]
  simp only [Int.toNat_natCast]
  omega
theorem tmod3 {q : Int} (q0 : 0 ≤ q) : q.tmod 3 = ((q.toNat % 3 : Nat) : Int) := by
  obtain ⟨k, rfl⟩ : ∃ k : Nat, q = k := ⟨q.toNat, by omega⟩
  exact tmod_nat (a := k) (n := 3)
theorem third {q : Int} (h : eqB (q.tmod 3) 1 = true) (q0 : 0 ≤ q) : q.toNat % 3 = 1 := by
  rw [tmod3 q0] at h
  simp [eqB] at h
  omega
theorem third' {q : Int} (h : eqB (q.tmod 3) 1 = false) (q0 : 0 ≤ q) : ¬ q.toNat % 3 = 1 := by
  rw [tmod3 q0] at h
  simp [eqB] at h
  omega
theorem back_ix2 {n : Nat} (hn : 0 < n) (h5 : n ≤ 500) {b : Int} (h0 : 0 ≤ b) (h1 : b < 256) :
    IntKind.i64.wrap (IntKind.i64.wrap ((n : Int) - 1) - (IntKind.i64.wrap (IntKind.u8.wrap (b.tdiv 3))).tmod (n : Int)) = ((n - 1 - b.toNat / 3 % n : Nat) : Int) := by
  obtain ⟨k, rfl⟩ : ∃ k : Nat, b = k := ⟨b.toNat, by omega⟩
  have e : IntKind.u8.wrap ((k : Int).tdiv 3) = ((k / 3 : Nat) : Int) := by
    rw [Int.tdiv_eq_ediv_of_nonneg h0]
    have : ((k : Int)) / 3 = ((k / 3 : Nat) : Int) := by omega
    rw [this]
    have hk : k / 3 < 256 := by omega
    simp only [IntKind.wrap, IntKind.bits, IntKind.signed]
    generalize k / 3 = j at hk
    simp
    omega
  rw [e]
  have := back_ix hn h5 (b := ((k / 3 : Nat) : Int)) (by omega) (by omega)
  rw [this]
  simp only [Int.toNat_natCast]
theorem u8_u64 {n : Int} (h0 : 0 ≤ n) (h1 : n < 256) : IntKind.u64.wrap n = n := by
  simp only [IntKind.wrap, IntKind.bits, IntKind.signed]
  simp
  omega
theorem back_at {h : List Cm} {k : Nat} {c : Cm} (hc : h[h.length - 1 - k % h.length]? = some c) : back h k = c.id := by unfold back; rw [hc]
theorem back_get {h : List Cm} (hn : 0 < h.length) (k : Nat) : ∃ c, h[h.length - 1 - k % h.length]? = some c := ⟨_, List.getElem?_eq_getElem (by omega)⟩
theorem Grown_ok : SpecOk (PP ()) 10 GrownS := by
  refine spec_of_vc (lv := 2) ctx7c_ok ctx7c_inl (fnOk_of Try.func10 (by kernel_rfl)) (by kernel_rfl) (fun a => by simp [GrownS, LFL, LF, cU64, cCm, Cm.cells, cB4]) (fun a => by simp [GrownS, LFL, LF, cU64, cCm, Cm.cells, cB4]) ?_
  intro x hx
  have G0 : Good dgW x.h := hx.g
  have hn := hx.n
  have hb := hx.b
  refine ⟨?_⟩
  cbv
  refine Sat.loop ctx7c_ok ctx7c_inl (lv := 2) (by kernel_rfl) 0 [] (fun y : Nat × List Cm => ⟨[.sl 4 cCm (fun _ => y.2), .sl 4 cB4 (fun _ => x.l), .any, .any, .any, .i .i64 (fun _ => (y.1 : Int))] ++ anys 98, []⟩)
    (fun y => y.1 ≤ x.l.length ∧ Good dgW y.2 ∧ y.2.length ≤ x.h.length + y.1 ∧ growM dgW (mkB x.l) (x.l.length - y.1) y.2 y.1 = grown x.h x.l) (fun y => x.l.length - y.1) (0, x.h) (by ((try cbv) <;> (repeat' (first | with_reducible exact trivial | with_reducible refine And.intro ?_ ?_)) <;> (try first | exact SlotLe.refl _ | exact SlotLe.dyn rfl | exact SlotLe.map rfl | exact SlotLe.iter rfl rfl (.inl rfl) | exact SlotLe.iter rfl rfl (.inr rfl) | refine SlotLe.fix ?_ | refine SlotLe.dyn ?_) <;> ((repeat' first | exact LeL.nil | exact Le.refl _ | refine LeL.cons ?_ ?_ | exact Le.ic rfl | exact Le.bc rfl | exact Le.i rfl | exact Le.b rfl | exact Le.sl rfl | exact Le.mp rfl | exact Le.csl rfl | exact Le.cslsl rfl | exact Le.nils rfl (fun _ => ⟨trivial, trivial⟩) | refine Le.lst rfl (fun _ _ => rfl) (fun _ => ⟨trivial, trivial⟩) ?_ | refine Le.lst rfl (fun _ _ => rfl) (fun _ => ⟨fun _ => ⟨trivial, trivial⟩, trivial⟩) ?_ | exact Le.nils rfl (fun _ => ⟨fun _ => ⟨trivial, trivial⟩, trivial⟩) | exact Le.nils rfl (fun x => (cCm_ok x).1) | refine Le.lst rfl (fun _ _ => rfl) (fun x => (cCm_ok x).1) ?_ | refine Le.agg ?_ | refine Le.tup ?_ | refine Le.fn ?_ ?_ | refine Le.spt ?_ | exact Le.any _)))) (by ((try cbv) <;> (repeat' (first | with_reducible exact trivial | with_reducible refine And.intro ?_ ?_)) <;> (try first | exact SlotLe.refl _ | exact SlotLe.dyn rfl | exact SlotLe.map rfl | exact SlotLe.iter rfl rfl (.inl rfl) | exact SlotLe.iter rfl rfl (.inr rfl) | refine SlotLe.fix ?_ | refine SlotLe.dyn ?_) <;> ((repeat' first | exact LeL.nil | exact Le.refl _ | refine LeL.cons ?_ ?_ | exact Le.ic rfl | exact Le.bc rfl | exact Le.i rfl | exact Le.b rfl | exact Le.sl rfl | exact Le.mp rfl | exact Le.csl rfl | exact Le.cslsl rfl | exact Le.nils rfl (fun _ => ⟨trivial, trivial⟩) | refine Le.lst rfl (fun _ _ => rfl) (fun _ => ⟨trivial, trivial⟩) ?_ | refine Le.lst rfl (fun _ _ => rfl) (fun _ => ⟨fun _ => ⟨trivial, trivial⟩, trivial⟩) ?_ | exact Le.nils rfl (fun _ => ⟨fun _ => ⟨trivial, trivial⟩, trivial⟩) | exact Le.nils rfl (fun x => (cCm_ok x).1) | refine Le.lst rfl (fun _ _ => rfl) (fun x => (cCm_ok x).1) ?_ | refine Le.agg ?_ | refine Le.tup ?_ | refine Le.fn ?_ ?_ | refine Le.spt ?_ | exact Le.any _)))) ⟨by omega, G0, Nat.le_refl _, rfl⟩ ?_
  rintro ⟨i, g⟩ ⟨hi, G, hg, ht⟩
  dsimp only at hi hg ht
  change Good dgW g at G
  cbv
  refine ⟨fun h2 => ?_, fun h2 => ?_⟩
  · have h2 := h2.out
    have hlt : i < x.l.length := by simp [ltB] at h2; ((try simp only [Go.Vc.natc] at *); omega)
    obtain ⟨va, ha⟩ : ∃ v, x.l[i]? = some v := ⟨_, List.getElem?_eq_getElem hlt⟩
    have hva : B4.ok va := hb va (List.mem_of_getElem? ha)
    obtain ⟨⟨p0, p1⟩, ⟨q0, q1⟩, ⟨r0, r1⟩, ⟨s0, s1⟩⟩ := hva
    have h5 : g.length ≤ 500 := by omega
    have ht1 : growM dgW (mkB x.l) (x.l.length - (i + 1)) (if (addM dgW g (mkC va g)).e = 0 then (addM dgW g (mkC va g)).h else g) (i + 1) = grown x.h x.l := by
      rw [show x.l.length - i = (x.l.length - (i + 1)) + 1 by omega, growM, mkB_at ha] at ht
      exact ht
    obtain ⟨gs1, gs2⟩ := grow_step dgW_noId G (mkC va g)
    have hs : Hs g := G.hs (by omega)
    have B1 : (if (addM dgW g (mkC va g)).e = 0 then (addM dgW g (mkC va g)).h else g).length ≤ x.h.length + (i + 1) := by omega
    have B2 : g.length ≤ x.h.length + (i + 1) := by omega
    cbv
    refine ⟨va, ⟨Int.natCast_nonneg i, ha⟩, ?_⟩
    cbv
    refine ⟨va, ⟨Int.natCast_nonneg i, ha⟩, ?_⟩
    cbv
    refine ⟨fun h => ?_, fun h => ?_⟩
    · have h := h.out
      have hg0 : 0 < g.length := by simp [ltB] at h; ((try simp only [Go.Vc.natc] at *); omega)
      obtain ⟨ca, hca⟩ := back_get hg0 va.1.toNat
      have ix := back_ix hg0 h5 p0 p1
      cbv
      refine ⟨va, ⟨Int.natCast_nonneg i, ha⟩, ?_⟩
      cbv
      refine ⟨fun h => ?_, fun h => ?_⟩
      · have h := h.out
        have hp : 20 < va.1 := by simpa [ltB] using h
        cbv
        refine ⟨va, ⟨Int.natCast_nonneg i, ha⟩, ?_⟩
        cbv
        refine ⟨⟨by ((try simp only [Go.Vc.natc] at *); omega)⟩, ca, ⟨by rw [ix]; exact Int.natCast_nonneg _, by rw [ix]; exact hca⟩, ?_⟩
        cbv
        refine ⟨[ca.id], ⟨by ((repeat' first | exact LeL.nil | exact Le.refl _ | refine LeL.cons ?_ ?_ | exact Le.ic rfl | exact Le.bc rfl | exact Le.i rfl | exact Le.b rfl | exact Le.sl rfl | exact Le.mp rfl | exact Le.csl rfl | exact Le.cslsl rfl | exact Le.nils rfl (fun _ => ⟨trivial, trivial⟩) | refine Le.lst rfl (fun _ _ => rfl) (fun _ => ⟨trivial, trivial⟩) ?_ | refine Le.lst rfl (fun _ _ => rfl) (fun _ => ⟨fun _ => ⟨trivial, trivial⟩, trivial⟩) ?_ | exact Le.nils rfl (fun _ => ⟨fun _ => ⟨trivial, trivial⟩, trivial⟩) | exact Le.nils rfl (fun x => (cCm_ok x).1) | refine Le.lst rfl (fun _ _ => rfl) (fun x => (cCm_ok x).1) ?_ | refine Le.agg ?_ | refine Le.tup ?_ | refine Le.fn ?_ ?_ | refine Le.spt ?_ | exact Le.any _)), by show 1 * 8 ≤ 140737488355328; omega, by show 1 ≤ 9223372036854775807; omega⟩, ?_⟩
        cbv
        refine ⟨fun h => ?_, fun h => ?_⟩
        · have h := h.out
          have hg0 : 0 < g.length := by simp [ltB] at h; ((try simp only [Go.Vc.natc] at *); omega)
          obtain ⟨cb, hcb⟩ := back_get hg0 (va.2.1.toNat / 3)
          have ix2 := back_ix2 hg0 h5 q0 q1
          cbv
          refine ⟨va, ⟨Int.natCast_nonneg i, ha⟩, ?_⟩
          cbv
          refine ⟨⟨by decide⟩, ?_⟩
          cbv
          refine ⟨fun h => ?_, fun h => ?_⟩
          · have h := h.out
            have hq : va.2.1.toNat % 3 = 1 := third h q0
            have hP : mkP va g = [ca.id, cb.id] := by
              unfold mkP
              rw [if_pos ⟨hg0, hp⟩, if_pos ⟨hg0, hq⟩, back_at hca, back_at hcb]
              rfl
            cbv
            refine ⟨va, ⟨Int.natCast_nonneg i, ha⟩, ?_⟩
            cbv
            refine ⟨⟨by decide⟩, ⟨by ((try simp only [Go.Vc.natc] at *); omega)⟩, cb, ⟨by rw [ix2]; exact Int.natCast_nonneg _, by rw [ix2]; exact hcb⟩, ?_⟩
            cbv
            refine ⟨[cb.id], ⟨by ((repeat' first | exact LeL.nil | exact Le.refl _ | refine LeL.cons ?_ ?_ | exact Le.ic rfl | exact Le.bc rfl | exact Le.i rfl | exact Le.b rfl | exact Le.sl rfl | exact Le.mp rfl | exact Le.csl rfl | exact Le.cslsl rfl | exact Le.nils rfl (fun _ => ⟨trivial, trivial⟩) | refine Le.lst rfl (fun _ _ => rfl) (fun _ => ⟨trivial, trivial⟩) ?_ | refine Le.lst rfl (fun _ _ => rfl) (fun _ => ⟨fun _ => ⟨trivial, trivial⟩, trivial⟩) ?_ | exact Le.nils rfl (fun _ => ⟨fun _ => ⟨trivial, trivial⟩, trivial⟩) | exact Le.nils rfl (fun x => (cCm_ok x).1) | refine Le.lst rfl (fun _ _ => rfl) (fun x => (cCm_ok x).1) ?_ | refine Le.agg ?_ | refine Le.tup ?_ | refine Le.fn ?_ ?_ | refine Le.spt ?_ | exact Le.any _)), by show (1 + 1) * 8 ≤ 140737488355328; omega, by show 1 + 1 ≤ 9223372036854775807; omega⟩, ?_⟩
            have hC : (⟨0, [ca.id, cb.id], IntKind.u64.wrap va.2.2.1, IntKind.i64.wrap va.2.2.2.1⟩ : Cm) = mkC va g := by
              rw [u8_u64 r0 r1, wrap_small s0 (by omega)]
              unfold mkC
              rw [hP]
            cbv
            refine Sat.freeze 4 rfl rfl ?_
            refine Sat.go ctx7_ok ctx7_inl (lv := 2) (by kernel_rfl) ?_
            cbv
            refine ⟨⟨g, ⟨0, [ca.id, cb.id], IntKind.u64.wrap va.2.2.1, IntKind.i64.wrap va.2.2.2.1⟩⟩, ⟨by ((repeat' first | exact LeL.nil | exact Le.refl _ | refine LeL.cons ?_ ?_ | exact Le.ic rfl | exact Le.bc rfl | exact Le.i rfl | exact Le.b rfl | exact Le.sl rfl | exact Le.mp rfl | exact Le.csl rfl | exact Le.cslsl rfl | exact Le.nils rfl (fun _ => ⟨trivial, trivial⟩) | refine Le.lst rfl (fun _ _ => rfl) (fun _ => ⟨trivial, trivial⟩) ?_ | refine Le.lst rfl (fun _ _ => rfl) (fun _ => ⟨fun _ => ⟨trivial, trivial⟩, trivial⟩) ?_ | exact Le.nils rfl (fun _ => ⟨fun _ => ⟨trivial, trivial⟩, trivial⟩) | exact Le.nils rfl (fun x => (cCm_ok x).1) | refine Le.lst rfl (fun _ _ => rfl) (fun x => (cCm_ok x).1) ?_ | refine Le.agg ?_ | refine Le.tup ?_ | refine Le.fn ?_ ?_ | refine Le.spt ?_ | exact Le.any _)), ⟨hs, by show ([ca.id, cb.id] : List Int).length ≤ 1000000; simp⟩⟩, ?_⟩
            cbv
            refine ⟨fun h => ?_, fun h => ?_⟩
            · have h := h.out
              have he : (addM dgW g (mkC va g)).e = 0 := by rw [← hC]; simpa [eqB] using h
              rw [if_pos he] at ht1 gs1 B1
              cbv
              exact ⟨(i + 1, (addM dgW g ⟨0, [ca.id, cb.id], IntKind.u64.wrap va.2.2.1, IntKind.i64.wrap va.2.2.2.1⟩).h), by ((try cbv) <;> (repeat' (first | with_reducible exact trivial | with_reducible refine And.intro ?_ ?_)) <;> (try first | exact SlotLe.refl _ | exact SlotLe.dyn rfl | exact SlotLe.map rfl | exact SlotLe.iter rfl rfl (.inl rfl) | exact SlotLe.iter rfl rfl (.inr rfl) | refine SlotLe.fix ?_ | refine SlotLe.dyn ?_) <;> ((repeat' first | exact LeL.nil | exact Le.refl _ | refine LeL.cons ?_ ?_ | exact Le.ic rfl | exact Le.bc rfl | exact Le.i rfl | exact Le.b rfl | exact Le.sl rfl | exact Le.mp rfl | exact Le.csl rfl | exact Le.cslsl rfl | exact Le.nils rfl (fun _ => ⟨trivial, trivial⟩) | refine Le.lst rfl (fun _ _ => rfl) (fun _ => ⟨trivial, trivial⟩) ?_ | refine Le.lst rfl (fun _ _ => rfl) (fun _ => ⟨fun _ => ⟨trivial, trivial⟩, trivial⟩) ?_ | exact Le.nils rfl (fun _ => ⟨fun _ => ⟨trivial, trivial⟩, trivial⟩) | exact Le.nils rfl (fun x => (cCm_ok x).1) | refine Le.lst rfl (fun _ _ => rfl) (fun x => (cCm_ok x).1) ?_ | refine Le.agg ?_ | refine Le.tup ?_ | refine Le.fn ?_ ?_ | refine Le.spt ?_ | exact Le.any _))) <;> (refine .i ?_; show IntKind.i64.wrap ((i : Int) + 1) = ((i + 1 : Nat) : Int); rw [w64 (by omega) (by omega)]; rfl), by ((try cbv) <;> (repeat' (first | with_reducible exact trivial | with_reducible refine And.intro ?_ ?_)) <;> (try first | exact SlotLe.refl _ | exact SlotLe.dyn rfl | exact SlotLe.map rfl | exact SlotLe.iter rfl rfl (.inl rfl) | exact SlotLe.iter rfl rfl (.inr rfl) | refine SlotLe.fix ?_ | refine SlotLe.dyn ?_) <;> ((repeat' first | exact LeL.nil | exact Le.refl _ | refine LeL.cons ?_ ?_ | exact Le.ic rfl | exact Le.bc rfl | exact Le.i rfl | exact Le.b rfl | exact Le.sl rfl | exact Le.mp rfl | exact Le.csl rfl | exact Le.cslsl rfl | exact Le.nils rfl (fun _ => ⟨trivial, trivial⟩) | refine Le.lst rfl (fun _ _ => rfl) (fun _ => ⟨trivial, trivial⟩) ?_ | refine Le.lst rfl (fun _ _ => rfl) (fun _ => ⟨fun _ => ⟨trivial, trivial⟩, trivial⟩) ?_ | exact Le.nils rfl (fun _ => ⟨fun _ => ⟨trivial, trivial⟩, trivial⟩) | exact Le.nils rfl (fun x => (cCm_ok x).1) | refine Le.lst rfl (fun _ _ => rfl) (fun x => (cCm_ok x).1) ?_ | refine Le.agg ?_ | refine Le.tup ?_ | refine Le.fn ?_ ?_ | refine Le.spt ?_ | exact Le.any _))), ⟨⟨hlt, by rw [hC]; exact gs1, by rw [hC]; exact B1, by rw [hC]; exact ht1⟩, by show x.l.length - (i + 1) < x.l.length - i; omega⟩⟩
            · have h := h.out
              have he : ¬ (addM dgW g (mkC va g)).e = 0 := by rw [← hC]; simpa [eqB] using h
              rw [if_neg he] at ht1
              cbv
              exact ⟨(i + 1, g), by ((try cbv) <;> (repeat' (first | with_reducible exact trivial | with_reducible refine And.intro ?_ ?_)) <;> (try first | exact SlotLe.refl _ | exact SlotLe.dyn rfl | exact SlotLe.map rfl | exact SlotLe.iter rfl rfl (.inl rfl) | exact SlotLe.iter rfl rfl (.inr rfl) | refine SlotLe.fix ?_ | refine SlotLe.dyn ?_) <;> ((repeat' first | exact LeL.nil | exact Le.refl _ | refine LeL.cons ?_ ?_ | exact Le.ic rfl | exact Le.bc rfl | exact Le.i rfl | exact Le.b rfl | exact Le.sl rfl | exact Le.mp rfl | exact Le.csl rfl | exact Le.cslsl rfl | exact Le.nils rfl (fun _ => ⟨trivial, trivial⟩) | refine Le.lst rfl (fun _ _ => rfl) (fun _ => ⟨trivial, trivial⟩) ?_ | refine Le.lst rfl (fun _ _ => rfl) (fun _ => ⟨fun _ => ⟨trivial, trivial⟩, trivial⟩) ?_ | exact Le.nils rfl (fun _ => ⟨fun _ => ⟨trivial, trivial⟩, trivial⟩) | exact Le.nils rfl (fun x => (cCm_ok x).1) | refine Le.lst rfl (fun _ _ => rfl) (fun x => (cCm_ok x).1) ?_ | refine Le.agg ?_ | refine Le.tup ?_ | refine Le.fn ?_ ?_ | refine Le.spt ?_ | exact Le.any _))) <;> (refine .i ?_; show IntKind.i64.wrap ((i : Int) + 1) = ((i + 1 : Nat) : Int); rw [w64 (by omega) (by omega)]; rfl), by ((try cbv) <;> (repeat' (first | with_reducible exact trivial | with_reducible refine And.intro ?_ ?_)) <;> (try first | exact SlotLe.refl _ | exact SlotLe.dyn rfl | exact SlotLe.map rfl | exact SlotLe.iter rfl rfl (.inl rfl) | exact SlotLe.iter rfl rfl (.inr rfl) | refine SlotLe.fix ?_ | refine SlotLe.dyn ?_) <;> ((repeat' first | exact LeL.nil | exact Le.refl _ | refine LeL.cons ?_ ?_ | exact Le.ic rfl | exact Le.bc rfl | exact Le.i rfl | exact Le.b rfl | exact Le.sl rfl | exact Le.mp rfl | exact Le.csl rfl | exact Le.cslsl rfl | exact Le.nils rfl (fun _ => ⟨trivial, trivial⟩) | refine Le.lst rfl (fun _ _ => rfl) (fun _ => ⟨trivial, trivial⟩) ?_ | refine Le.lst rfl (fun _ _ => rfl) (fun _ => ⟨fun _ => ⟨trivial, trivial⟩, trivial⟩) ?_ | exact Le.nils rfl (fun _ => ⟨fun _ => ⟨trivial, trivial⟩, trivial⟩) | exact Le.nils rfl (fun x => (cCm_ok x).1) | refine Le.lst rfl (fun _ _ => rfl) (fun x => (cCm_ok x).1) ?_ | refine Le.agg ?_ | refine Le.tup ?_ | refine Le.fn ?_ ?_ | refine Le.spt ?_ | exact Le.any _))), ⟨⟨hlt, G, B2, ht1⟩, by show x.l.length - (i + 1) < x.l.length - i; omega⟩⟩
          · have h := h.out
            have hq : ¬ va.2.1.toNat % 3 = 1 := third' h q0
            have hP : mkP va g = [ca.id] := by
              unfold mkP
              rw [if_pos ⟨hg0, hp⟩, if_neg (fun q => hq q.2), back_at hca]
              rfl
            have hC : (⟨0, [ca.id], IntKind.u64.wrap va.2.2.1, IntKind.i64.wrap va.2.2.2.1⟩ : Cm) = mkC va g := by
              rw [u8_u64 r0 r1, wrap_small s0 (by omega)]
              unfold mkC
              rw [hP]
            cbv
            refine Sat.freeze 2 rfl rfl ?_
            refine Sat.go ctx7_ok ctx7_inl (lv := 2) (by kernel_rfl) ?_
            cbv
            refine ⟨⟨g, ⟨0, [ca.id], IntKind.u64.wrap va.2.2.1, IntKind.i64.wrap va.2.2.2.1⟩⟩, ⟨by ((repeat' first | exact LeL.nil | exact Le.refl _ | refine LeL.cons ?_ ?_ | exact Le.ic rfl | exact Le.bc rfl | exact Le.i rfl | exact Le.b rfl | exact Le.sl rfl | exact Le.mp rfl | exact Le.csl rfl | exact Le.cslsl rfl | exact Le.nils rfl (fun _ => ⟨trivial, trivial⟩) | refine Le.lst rfl (fun _ _ => rfl) (fun _ => ⟨trivial, trivial⟩) ?_ | refine Le.lst rfl (fun _ _ => rfl) (fun _ => ⟨fun _ => ⟨trivial, trivial⟩, trivial⟩) ?_ | exact Le.nils rfl (fun _ => ⟨fun _ => ⟨trivial, trivial⟩, trivial⟩) | exact Le.nils rfl (fun x => (cCm_ok x).1) | refine Le.lst rfl (fun _ _ => rfl) (fun x => (cCm_ok x).1) ?_ | refine Le.agg ?_ | refine Le.tup ?_ | refine Le.fn ?_ ?_ | refine Le.spt ?_ | exact Le.any _)), ⟨hs, by show ([ca.id] : List Int).length ≤ 1000000; simp⟩⟩, ?_⟩
            cbv
            refine ⟨fun h => ?_, fun h => ?_⟩
            · have h := h.out
              have he : (addM dgW g (mkC va g)).e = 0 := by rw [← hC]; simpa [eqB] using h
              rw [if_pos he] at ht1 gs1 B1
              cbv
              exact ⟨(i + 1, (addM dgW g ⟨0, [ca.id], IntKind.u64.wrap va.2.2.1, IntKind.i64.wrap va.2.2.2.1⟩).h), by ((try cbv) <;> (repeat' (first | with_reducible exact trivial | with_reducible refine And.intro ?_ ?_)) <;> (try first | exact SlotLe.refl _ | exact SlotLe.dyn rfl | exact SlotLe.map rfl | exact SlotLe.iter rfl rfl (.inl rfl) | exact SlotLe.iter rfl rfl (.inr rfl) | refine SlotLe.fix ?_ | refine SlotLe.dyn ?_) <;> ((repeat' first | exact LeL.nil | exact Le.refl _ | refine LeL.cons ?_ ?_ | exact Le.ic rfl | exact Le.bc rfl | exact Le.i rfl | exact Le.b rfl | exact Le.sl rfl | exact Le.mp rfl | exact Le.csl rfl | exact Le.cslsl rfl | exact Le.nils rfl (fun _ => ⟨trivial, trivial⟩) | refine Le.lst rfl (fun _ _ => rfl) (fun _ => ⟨trivial, trivial⟩) ?_ | refine Le.lst rfl (fun _ _ => rfl) (fun _ => ⟨fun _ => ⟨trivial, trivial⟩, trivial⟩) ?_ | exact Le.nils rfl (fun _ => ⟨fun _ => ⟨trivial, trivial⟩, trivial⟩) | exact Le.nils rfl (fun x => (cCm_ok x).1) | refine Le.lst rfl (fun _ _ => rfl) (fun x => (cCm_ok x).1) ?_ | refine Le.agg ?_ | refine Le.tup ?_ | refine Le.fn ?_ ?_ | refine Le.spt ?_ | exact Le.any _))) <;> (refine .i ?_; show IntKind.i64.wrap ((i : Int) + 1) = ((i + 1 : Nat) : Int); rw [w64 (by omega) (by omega)]; rfl), by ((try cbv) <;> (repeat' (first | with_reducible exact trivial | with_reducible refine And.intro ?_ ?_)) <;> (try first | exact SlotLe.refl _ | exact SlotLe.dyn rfl | exact SlotLe.map rfl | exact SlotLe.iter rfl rfl (.inl rfl) | exact SlotLe.iter rfl rfl (.inr rfl) | refine SlotLe.fix ?_ | refine SlotLe.dyn ?_) <;> ((repeat' first | exact LeL.nil | exact Le.refl _ | refine LeL.cons ?_ ?_ | exact Le.ic rfl | exact Le.bc rfl | exact Le.i rfl | exact Le.b rfl | exact Le.sl rfl | exact Le.mp rfl | exact Le.csl rfl | exact Le.cslsl rfl | exact Le.nils rfl (fun _ => ⟨trivial, trivial⟩) | refine Le.lst rfl (fun _ _ => rfl) (fun _ => ⟨trivial, trivial⟩) ?_ | refine Le.lst rfl (fun _ _ => rfl) (fun _ => ⟨fun _ => ⟨trivial, trivial⟩, trivial⟩) ?_ | exact Le.nils rfl (fun _ => ⟨fun _ => ⟨trivial, trivial⟩, trivial⟩) | exact Le.nils rfl (fun x => (cCm_ok x).1) | refine Le.lst rfl (fun _ _ => rfl) (fun x => (cCm_ok x).1) ?_ | refine Le.agg ?_ | refine Le.tup ?_ | refine Le.fn ?_ ?_ | refine Le.spt ?_ | exact Le.any _))), ⟨⟨hlt, by rw [hC]; exact gs1, by rw [hC]; exact B1, by rw [hC]; exact ht1⟩, by show x.l.length - (i + 1) < x.l.length - i; omega⟩⟩
            · have h := h.out
              have he : ¬ (addM dgW g (mkC va g)).e = 0 := by rw [← hC]; simpa [eqB] using h
              rw [if_neg he] at ht1
              cbv
              exact ⟨(i + 1, g), by ((try cbv) <;> (repeat' (first | with_reducible exact trivial | with_reducible refine And.intro ?_ ?_)) <;> (try first | exact SlotLe.refl _ | exact SlotLe.dyn rfl | exact SlotLe.map rfl | exact SlotLe.iter rfl rfl (.inl rfl) | exact SlotLe.iter rfl rfl (.inr rfl) | refine SlotLe.fix ?_ | refine SlotLe.dyn ?_) <;> ((repeat' first | exact LeL.nil | exact Le.refl _ | refine LeL.cons ?_ ?_ | exact Le.ic rfl | exact Le.bc rfl | exact Le.i rfl | exact Le.b rfl | exact Le.sl rfl | exact Le.mp rfl | exact Le.csl rfl | exact Le.cslsl rfl | exact Le.nils rfl (fun _ => ⟨trivial, trivial⟩) | refine Le.lst rfl (fun _ _ => rfl) (fun _ => ⟨trivial, trivial⟩) ?_ | refine Le.lst rfl (fun _ _ => rfl) (fun _ => ⟨fun _ => ⟨trivial, trivial⟩, trivial⟩) ?_ | exact Le.nils rfl (fun _ => ⟨fun _ => ⟨trivial, trivial⟩, trivial⟩) | exact Le.nils rfl (fun x => (cCm_ok x).1) | refine Le.lst rfl (fun _ _ => rfl) (fun x => (cCm_ok x).1) ?_ | refine Le.agg ?_ | refine Le.tup ?_ | refine Le.fn ?_ ?_ | refine Le.spt ?_ | exact Le.any _))) <;> (refine .i ?_; show IntKind.i64.wrap ((i : Int) + 1) = ((i + 1 : Nat) : Int); rw [w64 (by omega) (by omega)]; rfl), by ((try cbv) <;> (repeat' (first | with_reducible exact trivial | with_reducible refine And.intro ?_ ?_)) <;> (try first | exact SlotLe.refl _ | exact SlotLe.dyn rfl | exact SlotLe.map rfl | exact SlotLe.iter rfl rfl (.inl rfl) | exact SlotLe.iter rfl rfl (.inr rfl) | refine SlotLe.fix ?_ | refine SlotLe.dyn ?_) <;> ((repeat' first | exact LeL.nil | exact Le.refl _ | refine LeL.cons ?_ ?_ | exact Le.ic rfl | exact Le.bc rfl | exact Le.i rfl | exact Le.b rfl | exact Le.sl rfl | exact Le.mp rfl | exact Le.csl rfl | exact Le.cslsl rfl | exact Le.nils rfl (fun _ => ⟨trivial, trivial⟩) | refine Le.lst rfl (fun _ _ => rfl) (fun _ => ⟨trivial, trivial⟩) ?_ | refine Le.lst rfl (fun _ _ => rfl) (fun _ => ⟨fun _ => ⟨trivial, trivial⟩, trivial⟩) ?_ | exact Le.nils rfl (fun _ => ⟨fun _ => ⟨trivial, trivial⟩, trivial⟩) | exact Le.nils rfl (fun x => (cCm_ok x).1) | refine Le.lst rfl (fun _ _ => rfl) (fun x => (cCm_ok x).1) ?_ | refine Le.agg ?_ | refine Le.tup ?_ | refine Le.fn ?_ ?_ | refine Le.spt ?_ | exact Le.any _))), ⟨⟨hlt, G, B2, ht1⟩, by show x.l.length - (i + 1) < x.l.length - i; omega⟩⟩
        · exfalso
          exact of_decide_eq_false h.out (Int.natCast_pos.2 hg0)
      · have h := h.out
        have hp : ¬ 20 < va.1 := by simpa [ltB] using h
        cbv
        refine ⟨fun h => ?_, fun h => ?_⟩
        · have h := h.out
          have hg0 : 0 < g.length := by simp [ltB] at h; ((try simp only [Go.Vc.natc] at *); omega)
          obtain ⟨cb, hcb⟩ := back_get hg0 (va.2.1.toNat / 3)
          have ix2 := back_ix2 hg0 h5 q0 q1
          cbv
          refine ⟨va, ⟨Int.natCast_nonneg i, ha⟩, ?_⟩
          cbv
          refine ⟨⟨by decide⟩, ?_⟩
          cbv
          refine ⟨fun h => ?_, fun h => ?_⟩
          · have h := h.out
            have hq : va.2.1.toNat % 3 = 1 := third h q0
            have hP : mkP va g = [cb.id] := by
              unfold mkP
              rw [if_neg (fun q => hp q.2), if_pos ⟨hg0, hq⟩, back_at hcb]
              rfl
            cbv
            refine ⟨va, ⟨Int.natCast_nonneg i, ha⟩, ?_⟩
            cbv
            refine ⟨⟨by decide⟩, ⟨by ((try simp only [Go.Vc.natc] at *); omega)⟩, cb, ⟨by rw [ix2]; exact Int.natCast_nonneg _, by rw [ix2]; exact hcb⟩, ?_⟩
            cbv
            refine ⟨[cb.id], ⟨by ((repeat' first | exact LeL.nil | exact Le.refl _ | refine LeL.cons ?_ ?_ | exact Le.ic rfl | exact Le.bc rfl | exact Le.i rfl | exact Le.b rfl | exact Le.sl rfl | exact Le.mp rfl | exact Le.csl rfl | exact Le.cslsl rfl | exact Le.nils rfl (fun _ => ⟨trivial, trivial⟩) | refine Le.lst rfl (fun _ _ => rfl) (fun _ => ⟨trivial, trivial⟩) ?_ | refine Le.lst rfl (fun _ _ => rfl) (fun _ => ⟨fun _ => ⟨trivial, trivial⟩, trivial⟩) ?_ | exact Le.nils rfl (fun _ => ⟨fun _ => ⟨trivial, trivial⟩, trivial⟩) | exact Le.nils rfl (fun x => (cCm_ok x).1) | refine Le.lst rfl (fun _ _ => rfl) (fun x => (cCm_ok x).1) ?_ | refine Le.agg ?_ | refine Le.tup ?_ | refine Le.fn ?_ ?_ | refine Le.spt ?_ | exact Le.any _)), by show 1 * 8 ≤ 140737488355328; omega, by show 1 ≤ 9223372036854775807; omega⟩, ?_⟩
            have hC : (⟨0, [cb.id], IntKind.u64.wrap va.2.2.1, IntKind.i64.wrap va.2.2.2.1⟩ : Cm) = mkC va g := by
              rw [u8_u64 r0 r1, wrap_small s0 (by omega)]
              unfold mkC
              rw [hP]
            cbv
            refine Sat.freeze 2 rfl rfl ?_
            refine Sat.go ctx7_ok ctx7_inl (lv := 2) (by kernel_rfl) ?_
            cbv
            refine ⟨⟨g, ⟨0, [cb.id], IntKind.u64.wrap va.2.2.1, IntKind.i64.wrap va.2.2.2.1⟩⟩, ⟨by ((repeat' first | exact LeL.nil | exact Le.refl _ | refine LeL.cons ?_ ?_ | exact Le.ic rfl | exact Le.bc rfl | exact Le.i rfl | exact Le.b rfl | exact Le.sl rfl | exact Le.mp rfl | exact Le.csl rfl | exact Le.cslsl rfl | exact Le.nils rfl (fun _ => ⟨trivial, trivial⟩) | refine Le.lst rfl (fun _ _ => rfl) (fun _ => ⟨trivial, trivial⟩) ?_ | refine Le.lst rfl (fun _ _ => rfl) (fun _ => ⟨fun _ => ⟨trivial, trivial⟩, trivial⟩) ?_ | exact Le.nils rfl (fun _ => ⟨fun _ => ⟨trivial, trivial⟩, trivial⟩) | exact Le.nils rfl (fun x => (cCm_ok x).1) | refine Le.lst rfl (fun _ _ => rfl) (fun x => (cCm_ok x).1) ?_ | refine Le.agg ?_ | refine Le.tup ?_ | refine Le.fn ?_ ?_ | refine Le.spt ?_ | exact Le.any _)), ⟨hs, by show ([cb.id] : List Int).length ≤ 1000000; simp⟩⟩, ?_⟩
            cbv
            refine ⟨fun h => ?_, fun h => ?_⟩
            · have h := h.out
              have he : (addM dgW g (mkC va g)).e = 0 := by rw [← hC]; simpa [eqB] using h
              rw [if_pos he] at ht1 gs1 B1
              cbv
              exact ⟨(i + 1, (addM dgW g ⟨0, [cb.id], IntKind.u64.wrap va.2.2.1, IntKind.i64.wrap va.2.2.2.1⟩).h), by ((try cbv) <;> (repeat' (first | with_reducible exact trivial | with_reducible refine And.intro ?_ ?_)) <;> (try first | exact SlotLe.refl _ | exact SlotLe.dyn rfl | exact SlotLe.map rfl | exact SlotLe.iter rfl rfl (.inl rfl) | exact SlotLe.iter rfl rfl (.inr rfl) | refine SlotLe.fix ?_ | refine SlotLe.dyn ?_) <;> ((repeat' first | exact LeL.nil | exact Le.refl _ | refine LeL.cons ?_ ?_ | exact Le.ic rfl | exact Le.bc rfl | exact Le.i rfl | exact Le.b rfl | exact Le.sl rfl | exact Le.mp rfl | exact Le.csl rfl | exact Le.cslsl rfl | exact Le.nils rfl (fun _ => ⟨trivial, trivial⟩) | refine Le.lst rfl (fun _ _ => rfl) (fun _ => ⟨trivial, trivial⟩) ?_ | refine Le.lst rfl (fun _ _ => rfl) (fun _ => ⟨fun _ => ⟨trivial, trivial⟩, trivial⟩) ?_ | exact Le.nils rfl (fun _ => ⟨fun _ => ⟨trivial, trivial⟩, trivial⟩) | exact Le.nils rfl (fun x => (cCm_ok x).1) | refine Le.lst rfl (fun _ _ => rfl) (fun x => (cCm_ok x).1) ?_ | refine Le.agg ?_ | refine Le.tup ?_ | refine Le.fn ?_ ?_ | refine Le.spt ?_ | exact Le.any _))) <;> (refine .i ?_; show IntKind.i64.wrap ((i : Int) + 1) = ((i + 1 : Nat) : Int); rw [w64 (by omega) (by omega)]; rfl), by ((try cbv) <;> (repeat' (first | with_reducible exact trivial | with_reducible refine And.intro ?_ ?_)) <;> (try first | exact SlotLe.refl _ | exact SlotLe.dyn rfl | exact SlotLe.map rfl | exact SlotLe.iter rfl rfl (.inl rfl) | exact SlotLe.iter rfl rfl (.inr rfl) | refine SlotLe.fix ?_ | refine SlotLe.dyn ?_) <;> ((repeat' first | exact LeL.nil | exact Le.refl _ | refine LeL.cons ?_ ?_ | exact Le.ic rfl | exact Le.bc rfl | exact Le.i rfl | exact Le.b rfl | exact Le.sl rfl | exact Le.mp rfl | exact Le.csl rfl | exact Le.cslsl rfl | exact Le.nils rfl (fun _ => ⟨trivial, trivial⟩) | refine Le.lst rfl (fun _ _ => rfl) (fun _ => ⟨trivial, trivial⟩) ?_ | refine Le.lst rfl (fun _ _ => rfl) (fun _ => ⟨fun _ => ⟨trivial, trivial⟩, trivial⟩) ?_ | exact Le.nils rfl (fun _ => ⟨fun _ => ⟨trivial, trivial⟩, trivial⟩) | exact Le.nils rfl (fun x => (cCm_ok x).1) | refine Le.lst rfl (fun _ _ => rfl) (fun x => (cCm_ok x).1) ?_ | refine Le.agg ?_ | refine Le.tup ?_ | refine Le.fn ?_ ?_ | refine Le.spt ?_ | exact Le.any _))), ⟨⟨hlt, by rw [hC]; exact gs1, by rw [hC]; exact B1, by rw [hC]; exact ht1⟩, by show x.l.length - (i + 1) < x.l.length - i; omega⟩⟩
            · have h := h.out
              have he : ¬ (addM dgW g (mkC va g)).e = 0 := by rw [← hC]; simpa [eqB] using h
              rw [if_neg he] at ht1
              cbv
              exact ⟨(i + 1, g), by ((try cbv) <;> (repeat' (first | with_reducible exact trivial | with_reducible refine And.intro ?_ ?_)) <;> (try first | exact SlotLe.refl _ | exact SlotLe.dyn rfl | exact SlotLe.map rfl | exact SlotLe.iter rfl rfl (.inl rfl) | exact SlotLe.iter rfl rfl (.inr rfl) | refine SlotLe.fix ?_ | refine SlotLe.dyn ?_) <;> ((repeat' first | exact LeL.nil | exact Le.refl _ | refine LeL.cons ?_ ?_ | exact Le.ic rfl | exact Le.bc rfl | exact Le.i rfl | exact Le.b rfl | exact Le.sl rfl | exact Le.mp rfl | exact Le.csl rfl | exact Le.cslsl rfl | exact Le.nils rfl (fun _ => ⟨trivial, trivial⟩) | refine Le.lst rfl (fun _ _ => rfl) (fun _ => ⟨trivial, trivial⟩) ?_ | refine Le.lst rfl (fun _ _ => rfl) (fun _ => ⟨fun _ => ⟨trivial, trivial⟩, trivial⟩) ?_ | exact Le.nils rfl (fun _ => ⟨fun _ => ⟨trivial, trivial⟩, trivial⟩) | exact Le.nils rfl (fun x => (cCm_ok x).1) | refine Le.lst rfl (fun _ _ => rfl) (fun x => (cCm_ok x).1) ?_ | refine Le.agg ?_ | refine Le.tup ?_ | refine Le.fn ?_ ?_ | refine Le.spt ?_ | exact Le.any _))) <;> (refine .i ?_; show IntKind.i64.wrap ((i : Int) + 1) = ((i + 1 : Nat) : Int); rw [w64 (by omega) (by omega)]; rfl), by ((try cbv) <;> (repeat' (first | with_reducible exact trivial | with_reducible refine And.intro ?_ ?_)) <;> (try first | exact SlotLe.refl _ | exact SlotLe.dyn rfl | exact SlotLe.map rfl | exact SlotLe.iter rfl rfl (.inl rfl) | exact SlotLe.iter rfl rfl (.inr rfl) | refine SlotLe.fix ?_ | refine SlotLe.dyn ?_) <;> ((repeat' first | exact LeL.nil | exact Le.refl _ | refine LeL.cons ?_ ?_ | exact Le.ic rfl | exact Le.bc rfl | exact Le.i rfl | exact Le.b rfl | exact Le.sl rfl | exact Le.mp rfl | exact Le.csl rfl | exact Le.cslsl rfl | exact Le.nils rfl (fun _ => ⟨trivial, trivial⟩) | refine Le.lst rfl (fun _ _ => rfl) (fun _ => ⟨trivial, trivial⟩) ?_ | refine Le.lst rfl (fun _ _ => rfl) (fun _ => ⟨fun _ => ⟨trivial, trivial⟩, trivial⟩) ?_ | exact Le.nils rfl (fun _ => ⟨fun _ => ⟨trivial, trivial⟩, trivial⟩) | exact Le.nils rfl (fun x => (cCm_ok x).1) | refine Le.lst rfl (fun _ _ => rfl) (fun x => (cCm_ok x).1) ?_ | refine Le.agg ?_ | refine Le.tup ?_ | refine Le.fn ?_ ?_ | refine Le.spt ?_ | exact Le.any _))), ⟨⟨hlt, G, B2, ht1⟩, by show x.l.length - (i + 1) < x.l.length - i; omega⟩⟩
          · have h := h.out
            have hq : ¬ va.2.1.toNat % 3 = 1 := third' h q0
            have hP : mkP va g = [] := by
              unfold mkP
              rw [if_neg (fun q => hp q.2), if_neg (fun q => hq q.2)]
              rfl
            have hC : (⟨0, [], IntKind.u64.wrap va.2.2.1, IntKind.i64.wrap va.2.2.2.1⟩ : Cm) = mkC va g := by
              rw [u8_u64 r0 r1, wrap_small s0 (by omega)]
              unfold mkC
              rw [hP]
            cbv
            refine Sat.go ctx7_ok ctx7_inl (lv := 2) (by kernel_rfl) ?_
            cbv
            refine ⟨⟨g, ⟨0, [], IntKind.u64.wrap va.2.2.1, IntKind.i64.wrap va.2.2.2.1⟩⟩, ⟨by ((repeat' first | exact LeL.nil | exact Le.refl _ | refine LeL.cons ?_ ?_ | exact Le.ic rfl | exact Le.bc rfl | exact Le.i rfl | exact Le.b rfl | exact Le.sl rfl | exact Le.mp rfl | exact Le.csl rfl | exact Le.cslsl rfl | exact Le.nils rfl (fun _ => ⟨trivial, trivial⟩) | refine Le.lst rfl (fun _ _ => rfl) (fun _ => ⟨trivial, trivial⟩) ?_ | refine Le.lst rfl (fun _ _ => rfl) (fun _ => ⟨fun _ => ⟨trivial, trivial⟩, trivial⟩) ?_ | exact Le.nils rfl (fun _ => ⟨fun _ => ⟨trivial, trivial⟩, trivial⟩) | exact Le.nils rfl (fun x => (cCm_ok x).1) | refine Le.lst rfl (fun _ _ => rfl) (fun x => (cCm_ok x).1) ?_ | refine Le.agg ?_ | refine Le.tup ?_ | refine Le.fn ?_ ?_ | refine Le.spt ?_ | exact Le.any _)), ⟨hs, by show ([] : List Int).length ≤ 1000000; simp⟩⟩, ?_⟩
            cbv
            refine ⟨fun h => ?_, fun h => ?_⟩
            · have h := h.out
              have he : (addM dgW g (mkC va g)).e = 0 := by rw [← hC]; simpa [eqB] using h
              rw [if_pos he] at ht1 gs1 B1
              cbv
              exact ⟨(i + 1, (addM dgW g ⟨0, [], IntKind.u64.wrap va.2.2.1, IntKind.i64.wrap va.2.2.2.1⟩).h), by ((try cbv) <;> (repeat' (first | with_reducible exact trivial | with_reducible refine And.intro ?_ ?_)) <;> (try first | exact SlotLe.refl _ | exact SlotLe.dyn rfl | exact SlotLe.map rfl | exact SlotLe.iter rfl rfl (.inl rfl) | exact SlotLe.iter rfl rfl (.inr rfl) | refine SlotLe.fix ?_ | refine SlotLe.dyn ?_) <;> ((repeat' first | exact LeL.nil | exact Le.refl _ | refine LeL.cons ?_ ?_ | exact Le.ic rfl | exact Le.bc rfl | exact Le.i rfl | exact Le.b rfl | exact Le.sl rfl | exact Le.mp rfl | exact Le.csl rfl | exact Le.cslsl rfl | exact Le.nils rfl (fun _ => ⟨trivial, trivial⟩) | refine Le.lst rfl (fun _ _ => rfl) (fun _ => ⟨trivial, trivial⟩) ?_ | refine Le.lst rfl (fun _ _ => rfl) (fun _ => ⟨fun _ => ⟨trivial, trivial⟩, trivial⟩) ?_ | exact Le.nils rfl (fun _ => ⟨fun _ => ⟨trivial, trivial⟩, trivial⟩) | exact Le.nils rfl (fun x => (cCm_ok x).1) | refine Le.lst rfl (fun _ _ => rfl) (fun x => (cCm_ok x).1) ?_ | refine Le.agg ?_ | refine Le.tup ?_ | refine Le.fn ?_ ?_ | refine Le.spt ?_ | exact Le.any _))) <;> (refine .i ?_; show IntKind.i64.wrap ((i : Int) + 1) = ((i + 1 : Nat) : Int); rw [w64 (by omega) (by omega)]; rfl), by ((try cbv) <;> (repeat' (first | with_reducible exact trivial | with_reducible refine And.intro ?_ ?_)) <;> (try first | exact SlotLe.refl _ | exact SlotLe.dyn rfl | exact SlotLe.map rfl | exact SlotLe.iter rfl rfl (.inl rfl) | exact SlotLe.iter rfl rfl (.inr rfl) | refine SlotLe.fix ?_ | refine SlotLe.dyn ?_) <;> ((repeat' first | exact LeL.nil | exact Le.refl _ | refine LeL.cons ?_ ?_ | exact Le.ic rfl | exact Le.bc rfl | exact Le.i rfl | exact Le.b rfl | exact Le.sl rfl | exact Le.mp rfl | exact Le.csl rfl | exact Le.cslsl rfl | exact Le.nils rfl (fun _ => ⟨trivial, trivial⟩) | refine Le.lst rfl (fun _ _ => rfl) (fun _ => ⟨trivial, trivial⟩) ?_ | refine Le.lst rfl (fun _ _ => rfl) (fun _ => ⟨fun _ => ⟨trivial, trivial⟩, trivial⟩) ?_ | exact Le.nils rfl (fun _ => ⟨fun _ => ⟨trivial, trivial⟩, trivial⟩) | exact Le.nils rfl (fun x => (cCm_ok x).1) | refine Le.lst rfl (fun _ _ => rfl) (fun x => (cCm_ok x).1) ?_ | refine Le.agg ?_ | refine Le.tup ?_ | refine Le.fn ?_ ?_ | refine Le.spt ?_ | exact Le.any _))), ⟨⟨hlt, by rw [hC]; exact gs1, by rw [hC]; exact B1, by rw [hC]; exact ht1⟩, by show x.l.length - (i + 1) < x.l.length - i; omega⟩⟩
            · have h := h.out
              have he : ¬ (addM dgW g (mkC va g)).e = 0 := by rw [← hC]; simpa [eqB] using h
              rw [if_neg he] at ht1
              cbv
              exact ⟨(i + 1, g), by ((try cbv) <;> (repeat' (first | with_reducible exact trivial | with_reducible refine And.intro ?_ ?_)) <;> (try first | exact SlotLe.refl _ | exact SlotLe.dyn rfl | exact SlotLe.map rfl | exact SlotLe.iter rfl rfl (.inl rfl) | exact SlotLe.iter rfl rfl (.inr rfl) | refine SlotLe.fix ?_ | refine SlotLe.dyn ?_) <;> ((repeat' first | exact LeL.nil | exact Le.refl _ | refine LeL.cons ?_ ?_ | exact Le.ic rfl | exact Le.bc rfl | exact Le.i rfl | exact Le.b rfl | exact Le.sl rfl | exact Le.mp rfl | exact Le.csl rfl | exact Le.cslsl rfl | exact Le.nils rfl (fun _ => ⟨trivial, trivial⟩) | refine Le.lst rfl (fun _ _ => rfl) (fun _ => ⟨trivial, trivial⟩) ?_ | refine Le.lst rfl (fun _ _ => rfl) (fun _ => ⟨fun _ => ⟨trivial, trivial⟩, trivial⟩) ?_ | exact Le.nils rfl (fun _ => ⟨fun _ => ⟨trivial, trivial⟩, trivial⟩) | exact Le.nils rfl (fun x => (cCm_ok x).1) | refine Le.lst rfl (fun _ _ => rfl) (fun x => (cCm_ok x).1) ?_ | refine Le.agg ?_ | refine Le.tup ?_ | refine Le.fn ?_ ?_ | refine Le.spt ?_ | exact Le.any _))) <;> (refine .i ?_; show IntKind.i64.wrap ((i : Int) + 1) = ((i + 1 : Nat) : Int); rw [w64 (by omega) (by omega)]; rfl), by ((try cbv) <;> (repeat' (first | with_reducible exact trivial | with_reducible refine And.intro ?_ ?_)) <;> (try first | exact SlotLe.refl _ | exact SlotLe.dyn rfl | exact SlotLe.map rfl | exact SlotLe.iter rfl rfl (.inl rfl) | exact SlotLe.iter rfl rfl (.inr rfl) | refine SlotLe.fix ?_ | refine SlotLe.dyn ?_) <;> ((repeat' first | exact LeL.nil | exact Le.refl _ | refine LeL.cons ?_ ?_ | exact Le.ic rfl | exact Le.bc rfl | exact Le.i rfl | exact Le.b rfl | exact Le.sl rfl | exact Le.mp rfl | exact Le.csl rfl | exact Le.cslsl rfl | exact Le.nils rfl (fun _ => ⟨trivial, trivial⟩) | refine Le.lst rfl (fun _ _ => rfl) (fun _ => ⟨trivial, trivial⟩) ?_ | refine Le.lst rfl (fun _ _ => rfl) (fun _ => ⟨fun _ => ⟨trivial, trivial⟩, trivial⟩) ?_ | exact Le.nils rfl (fun _ => ⟨fun _ => ⟨trivial, trivial⟩, trivial⟩) | exact Le.nils rfl (fun x => (cCm_ok x).1) | refine Le.lst rfl (fun _ _ => rfl) (fun x => (cCm_ok x).1) ?_ | refine Le.agg ?_ | refine Le.tup ?_ | refine Le.fn ?_ ?_ | refine Le.spt ?_ | exact Le.any _))), ⟨⟨hlt, G, B2, ht1⟩, by show x.l.length - (i + 1) < x.l.length - i; omega⟩⟩
        · exfalso
          exact of_decide_eq_false h.out (Int.natCast_pos.2 hg0)
    · have hg0 : ¬ 0 < g.length := fun q => of_decide_eq_false h.out (Int.natCast_pos.2 q)
      have hP : mkP va g = [] := by
        unfold mkP
        rw [if_neg (fun q => hg0 q.1), if_neg (fun q => hg0 q.1)]
        rfl
      cbv
      refine ⟨fun h => ?_, fun h => ?_⟩
      · exfalso
        exact hg0 (Int.natCast_pos.1 (of_decide_eq_true h.out))
      · have h := h.out
        have hC : (⟨0, [], IntKind.u64.wrap va.2.2.1, IntKind.i64.wrap va.2.2.2.1⟩ : Cm) = mkC va g := by
          rw [u8_u64 r0 r1, wrap_small s0 (by omega)]
          unfold mkC
          rw [hP]
        cbv
        refine Sat.go ctx7_ok ctx7_inl (lv := 2) (by kernel_rfl) ?_
        cbv
        refine ⟨⟨g, ⟨0, [], IntKind.u64.wrap va.2.2.1, IntKind.i64.wrap va.2.2.2.1⟩⟩, ⟨by ((repeat' first | exact LeL.nil | exact Le.refl _ | refine LeL.cons ?_ ?_ | exact Le.ic rfl | exact Le.bc rfl | exact Le.i rfl | exact Le.b rfl | exact Le.sl rfl | exact Le.mp rfl | exact Le.csl rfl | exact Le.cslsl rfl | exact Le.nils rfl (fun _ => ⟨trivial, trivial⟩) | refine Le.lst rfl (fun _ _ => rfl) (fun _ => ⟨trivial, trivial⟩) ?_ | refine Le.lst rfl (fun _ _ => rfl) (fun _ => ⟨fun _ => ⟨trivial, trivial⟩, trivial⟩) ?_ | exact Le.nils rfl (fun _ => ⟨fun _ => ⟨trivial, trivial⟩, trivial⟩) | exact Le.nils rfl (fun x => (cCm_ok x).1) | refine Le.lst rfl (fun _ _ => rfl) (fun x => (cCm_ok x).1) ?_ | refine Le.agg ?_ | refine Le.tup ?_ | refine Le.fn ?_ ?_ | refine Le.spt ?_ | exact Le.any _)), ⟨hs, by show ([] : List Int).length ≤ 1000000; simp⟩⟩, ?_⟩
        cbv
        refine ⟨fun h => ?_, fun h => ?_⟩
        · have h := h.out
          have he : (addM dgW g (mkC va g)).e = 0 := by rw [← hC]; simpa [eqB] using h
          rw [if_pos he] at ht1 gs1 B1
          cbv
          exact ⟨(i + 1, (addM dgW g ⟨0, [], IntKind.u64.wrap va.2.2.1, IntKind.i64.wrap va.2.2.2.1⟩).h), by ((try cbv) <;> (repeat' (first | with_reducible exact trivial | with_reducible refine And.intro ?_ ?_)) <;> (try first | exact SlotLe.refl _ | exact SlotLe.dyn rfl | exact SlotLe.map rfl | exact SlotLe.iter rfl rfl (.inl rfl) | exact SlotLe.iter rfl rfl (.inr rfl) | refine SlotLe.fix ?_ | refine SlotLe.dyn ?_) <;> ((repeat' first | exact LeL.nil | exact Le.refl _ | refine LeL.cons ?_ ?_ | exact Le.ic rfl | exact Le.bc rfl | exact Le.i rfl | exact Le.b rfl | exact Le.sl rfl | exact Le.mp rfl | exact Le.csl rfl | exact Le.cslsl rfl | exact Le.nils rfl (fun _ => ⟨trivial, trivial⟩) | refine Le.lst rfl (fun _ _ => rfl) (fun _ => ⟨trivial, trivial⟩) ?_ | refine Le.lst rfl (fun _ _ => rfl) (fun _ => ⟨fun _ => ⟨trivial, trivial⟩, trivial⟩) ?_ | exact Le.nils rfl (fun _ => ⟨fun _ => ⟨trivial, trivial⟩, trivial⟩) | exact Le.nils rfl (fun x => (cCm_ok x).1) | refine Le.lst rfl (fun _ _ => rfl) (fun x => (cCm_ok x).1) ?_ | refine Le.agg ?_ | refine Le.tup ?_ | refine Le.fn ?_ ?_ | refine Le.spt ?_ | exact Le.any _))) <;> (refine .i ?_; show IntKind.i64.wrap ((i : Int) + 1) = ((i + 1 : Nat) : Int); rw [w64 (by omega) (by omega)]; rfl), by ((try cbv) <;> (repeat' (first | with_reducible exact trivial | with_reducible refine And.intro ?_ ?_)) <;> (try first | exact SlotLe.refl _ | exact SlotLe.dyn rfl | exact SlotLe.map rfl | exact SlotLe.iter rfl rfl (.inl rfl) | exact SlotLe.iter rfl rfl (.inr rfl) | refine SlotLe.fix ?_ | refine SlotLe.dyn ?_) <;> ((repeat' first | exact LeL.nil | exact Le.refl _ | refine LeL.cons ?_ ?_ | exact Le.ic rfl | exact Le.bc rfl | exact Le.i rfl | exact Le.b rfl | exact Le.sl rfl | exact Le.mp rfl | exact Le.csl rfl | exact Le.cslsl rfl | exact Le.nils rfl (fun _ => ⟨trivial, trivial⟩) | refine Le.lst rfl (fun _ _ => rfl) (fun _ => ⟨trivial, trivial⟩) ?_ | refine Le.lst rfl (fun _ _ => rfl) (fun _ => ⟨fun _ => ⟨trivial, trivial⟩, trivial⟩) ?_ | exact Le.nils rfl (fun _ => ⟨fun _ => ⟨trivial, trivial⟩, trivial⟩) | exact Le.nils rfl (fun x => (cCm_ok x).1) | refine Le.lst rfl (fun _ _ => rfl) (fun x => (cCm_ok x).1) ?_ | refine Le.agg ?_ | refine Le.tup ?_ | refine Le.fn ?_ ?_ | refine Le.spt ?_ | exact Le.any _))), ⟨⟨hlt, by rw [hC]; exact gs1, by rw [hC]; exact B1, by rw [hC]; exact ht1⟩, by show x.l.length - (i + 1) < x.l.length - i; omega⟩⟩
        · have h := h.out
          have he : ¬ (addM dgW g (mkC va g)).e = 0 := by rw [← hC]; simpa [eqB] using h
          rw [if_neg he] at ht1
          cbv
          exact ⟨(i + 1, g), by ((try cbv) <;> (repeat' (first | with_reducible exact trivial | with_reducible refine And.intro ?_ ?_)) <;> (try first | exact SlotLe.refl _ | exact SlotLe.dyn rfl | exact SlotLe.map rfl | exact SlotLe.iter rfl rfl (.inl rfl) | exact SlotLe.iter rfl rfl (.inr rfl) | refine SlotLe.fix ?_ | refine SlotLe.dyn ?_) <;> ((repeat' first | exact LeL.nil | exact Le.refl _ | refine LeL.cons ?_ ?_ | exact Le.ic rfl | exact Le.bc rfl | exact Le.i rfl | exact Le.b rfl | exact Le.sl rfl | exact Le.mp rfl | exact Le.csl rfl | exact Le.cslsl rfl | exact Le.nils rfl (fun _ => ⟨trivial, trivial⟩) | refine Le.lst rfl (fun _ _ => rfl) (fun _ => ⟨trivial, trivial⟩) ?_ | refine Le.lst rfl (fun _ _ => rfl) (fun _ => ⟨fun _ => ⟨trivial, trivial⟩, trivial⟩) ?_ | exact Le.nils rfl (fun _ => ⟨fun _ => ⟨trivial, trivial⟩, trivial⟩) | exact Le.nils rfl (fun x => (cCm_ok x).1) | refine Le.lst rfl (fun _ _ => rfl) (fun x => (cCm_ok x).1) ?_ | refine Le.agg ?_ | refine Le.tup ?_ | refine Le.fn ?_ ?_ | refine Le.spt ?_ | exact Le.any _))) <;> (refine .i ?_; show IntKind.i64.wrap ((i : Int) + 1) = ((i + 1 : Nat) : Int); rw [w64 (by omega) (by omega)]; rfl), by ((try cbv) <;> (repeat' (first | with_reducible exact trivial | with_reducible refine And.intro ?_ ?_)) <;> (try first | exact SlotLe.refl _ | exact SlotLe.dyn rfl | exact SlotLe.map rfl | exact SlotLe.iter rfl rfl (.inl rfl) | exact SlotLe.iter rfl rfl (.inr rfl) | refine SlotLe.fix ?_ | refine SlotLe.dyn ?_) <;> ((repeat' first | exact LeL.nil | exact Le.refl _ | refine LeL.cons ?_ ?_ | exact Le.ic rfl | exact Le.bc rfl | exact Le.i rfl | exact Le.b rfl | exact Le.sl rfl | exact Le.mp rfl | exact Le.csl rfl | exact Le.cslsl rfl | exact Le.nils rfl (fun _ => ⟨trivial, trivial⟩) | refine Le.lst rfl (fun _ _ => rfl) (fun _ => ⟨trivial, trivial⟩) ?_ | refine Le.lst rfl (fun _ _ => rfl) (fun _ => ⟨fun _ => ⟨trivial, trivial⟩, trivial⟩) ?_ | exact Le.nils rfl (fun _ => ⟨fun _ => ⟨trivial, trivial⟩, trivial⟩) | exact Le.nils rfl (fun x => (cCm_ok x).1) | refine Le.lst rfl (fun _ _ => rfl) (fun x => (cCm_ok x).1) ?_ | refine Le.agg ?_ | refine Le.tup ?_ | refine Le.fn ?_ ?_ | refine Le.spt ?_ | exact Le.any _))), ⟨⟨hlt, G, B2, ht1⟩, by show x.l.length - (i + 1) < x.l.length - i; omega⟩⟩
  · have h2 := h2.out
    have hlt : ¬ i < x.l.length := by simp [ltB] at h2; ((try simp only [Go.Vc.natc] at *); omega)
    rw [show x.l.length - i = 0 by omega, growM] at ht
    cbv
    exact ⟨.sl ht⟩

end Go.Proofs.Hist
