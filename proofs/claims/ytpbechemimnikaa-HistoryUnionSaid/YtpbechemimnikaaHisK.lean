/-
  The histories' functions: what lies between, heads
-/
import Derived.Test.YtpbechemimnikaaHisJ
set_option linter.unusedVariables false
set_option linter.unusedSimpArgs false
set_option maxRecDepth 10000
set_option maxHeartbeats 2000000
namespace Go.Proofs.Hist
open Go Go.Vc

theorem setM_ntru {s : Int → Bool} {j : Int} (h : (!(setM s j).isSome) = true) : s j = false := by rw [setM_isSome] at h; simpa using h
theorem setM_nfls {s : Int → Bool} {j : Int} (h : (!(setM s j).isSome) = false) : s j = true := by rw [setM_isSome] at h; simpa using h
def betS (h : List Cm) (a b : Int) : List Int × Int := match above h a, above h b with
  | some s, some t => ((ids h).filter fun x => t x && !s x, 0)
  | _, _ => ([], 4)
def BetS : Vc.Spec where
  α := HAB
  args x := [.sl 4 cCm (fun _ => x.h), .i .u64 (fun _ => x.a), .i .u64 (fun _ => x.b)]
  pre x := Hs x.h
  res x := .tup [.sl 1 cU64 (fun _ => (betS x.h x.a x.b).1), .i .i64 (fun _ => (betS x.h x.a x.b).2)]
theorem Bet_ok : SpecOk (PP ()) 35 BetS := by
  refine spec_of_vc (lv := 5) ctx17_ok ctx17_inl (fnOk_of Try.func35 (by kernel_rfl)) (by kernel_rfl) (fun a => by simp [BetS, LFL, LF, cU64, cCm, Cm.cells, cSet, cTrue]) (fun a => by simp [BetS, LFL, LF, cU64, cCm, Cm.cells, cSet, cTrue]) ?_
  intro x hx
  have H : Hs x.h := hx
  obtain ⟨q, hq⟩ : ∃ q, q = betS x.h x.a x.b := ⟨_, rfl⟩
  have hr : BetS.res x = .tup [.sl 1 cU64 (fun _ => q.1), .i .i64 (fun _ => q.2)] := by rw [hq]; rfl
  rw [hr]
  unfold betS at hq
  refine ⟨?_⟩
  cbv
  refine ⟨x, ⟨by ((repeat' first | exact LeL.nil | exact Le.refl _ | refine LeL.cons ?_ ?_ | exact Le.ic rfl | exact Le.bc rfl | exact Le.i rfl | exact Le.b rfl | exact Le.sl rfl | exact Le.mp rfl | exact Le.csl rfl | exact Le.cslsl rfl | exact Le.nils rfl (fun _ => ⟨trivial, trivial⟩) | refine Le.lst rfl (fun _ _ => rfl) (fun _ => ⟨trivial, trivial⟩) ?_ | refine Le.lst rfl (fun _ _ => rfl) (fun _ => ⟨fun _ => ⟨trivial, trivial⟩, trivial⟩) ?_ | exact Le.nils rfl (fun _ => ⟨fun _ => ⟨trivial, trivial⟩, trivial⟩) | exact Le.nils rfl (fun x => (cCm_ok x).1) | refine Le.lst rfl (fun _ _ => rfl) (fun x => (cCm_ok x).1) ?_ | refine Le.agg ?_ | refine Le.tup ?_ | refine Le.fn ?_ ?_ | refine Le.spt ?_ | exact Le.any _)), H⟩, ?_⟩
  cbv
  refine ⟨fun h => ?_, fun h => ?_⟩
  · have h := h.out
    rcases ha : above x.h x.a with _ | s
    · rw [ha] at hq
      cbv
      exact ⟨.tup (.cons (.nils (by rw [hq]) fun y => (cU64_ok y).1) (.cons (.ic (by rw [hq])) .nil))⟩
    · rcases hb : above x.h x.b with _ | t
      · rw [ha, hb] at hq
        cbv
        exact ⟨.tup (.cons (.nils (by rw [hq]) fun y => (cU64_ok y).1) (.cons (.ic (by rw [hq])) .nil))⟩
      · exfalso
        have h' : (!((above x.h x.a).isSome && (above x.h x.b).isSome)) = true := h
        rw [ha, hb] at h'
        cases h'
  · have h := h.out
    have h' : (!((above x.h x.a).isSome && (above x.h x.b).isSome)) = false := h
    rcases ha : above x.h x.a with _ | s
    · rw [ha] at h'; cases h'
    rcases hb : above x.h x.b with _ | t
    · rw [ha, hb] at h'; cases h'
    rw [ha, hb] at hq
    cbv
    refine Sat.adoptc 3 0 27 1 eltU64 cU64_ok rfl rfl ?_
    refine Sat.loopD ctx17_ok ctx17_inl (lv := 4) (by kernel_rfl) 8 8 [(.c 3 0, 7)] (fun i : Nat => [(8, .i .i64 (fun _ => (i : Int)))]) (fun i => [(7, .dyn 27 1 cU64 (fun _ => ((ids x.h).take i).filter (fun y => t y && !s y)))])
      (fun i => i ≤ x.h.length) (fun i => x.h.length - i) 0 (by ((try cbv) <;> (repeat' (first | with_reducible exact trivial | with_reducible refine And.intro ?_ ?_)) <;> (try first | exact SlotLe.refl _ | exact SlotLe.dyn rfl | exact SlotLe.map rfl | exact SlotLe.iter rfl rfl (.inl rfl) | exact SlotLe.iter rfl rfl (.inr rfl) | refine SlotLe.fix ?_ | refine SlotLe.dyn ?_) <;> ((repeat' first | exact LeL.nil | exact Le.refl _ | refine LeL.cons ?_ ?_ | exact Le.ic rfl | exact Le.bc rfl | exact Le.i rfl | exact Le.b rfl | exact Le.sl rfl | exact Le.mp rfl | exact Le.csl rfl | exact Le.cslsl rfl | exact Le.nils rfl (fun _ => ⟨trivial, trivial⟩) | refine Le.lst rfl (fun _ _ => rfl) (fun _ => ⟨trivial, trivial⟩) ?_ | refine Le.lst rfl (fun _ _ => rfl) (fun _ => ⟨fun _ => ⟨trivial, trivial⟩, trivial⟩) ?_ | exact Le.nils rfl (fun _ => ⟨fun _ => ⟨trivial, trivial⟩, trivial⟩) | exact Le.nils rfl (fun x => (cCm_ok x).1) | refine Le.lst rfl (fun _ _ => rfl) (fun x => (cCm_ok x).1) ?_ | refine Le.agg ?_ | refine Le.tup ?_ | refine Le.fn ?_ ?_ | refine Le.spt ?_ | exact Le.any _)))) (by ((try cbv) <;> (repeat' (first | with_reducible exact trivial | with_reducible refine And.intro ?_ ?_)) <;> (try first | exact SlotLe.refl _ | exact SlotLe.dyn rfl | exact SlotLe.map rfl | exact SlotLe.iter rfl rfl (.inl rfl) | exact SlotLe.iter rfl rfl (.inr rfl) | refine SlotLe.fix ?_ | refine SlotLe.dyn ?_) <;> ((repeat' first | exact LeL.nil | exact Le.refl _ | refine LeL.cons ?_ ?_ | exact Le.ic rfl | exact Le.bc rfl | exact Le.i rfl | exact Le.b rfl | exact Le.sl rfl | exact Le.mp rfl | exact Le.csl rfl | exact Le.cslsl rfl | exact Le.nils rfl (fun _ => ⟨trivial, trivial⟩) | refine Le.lst rfl (fun _ _ => rfl) (fun _ => ⟨trivial, trivial⟩) ?_ | refine Le.lst rfl (fun _ _ => rfl) (fun _ => ⟨fun _ => ⟨trivial, trivial⟩, trivial⟩) ?_ | exact Le.nils rfl (fun _ => ⟨fun _ => ⟨trivial, trivial⟩, trivial⟩) | exact Le.nils rfl (fun x => (cCm_ok x).1) | refine Le.lst rfl (fun _ _ => rfl) (fun x => (cCm_ok x).1) ?_ | refine Le.agg ?_ | refine Le.tup ?_ | refine Le.fn ?_ ?_ | refine Le.spt ?_ | exact Le.any _)))) (by omega) ?_
    intro i hi
    have hn := H.n
    cbv
    refine ⟨fun h2 => ?_, fun h2 => ?_⟩
    · have h2 := h2.out
      have hlt : i < x.h.length := by simp [ltB] at h2; ((try simp only [Go.Vc.natc] at *); omega)
      obtain ⟨va, hva⟩ : ∃ v, x.h[i]? = some v := ⟨_, List.getElem?_eq_getElem hlt⟩
      have hlen := col_len (fun y => t y && !s y) x.h i
      cbv
      refine ⟨va, ⟨Int.natCast_nonneg i, hva⟩, ?_⟩
      cbv
      refine ⟨some (some t), ⟨hb⟩, ?_⟩
      cbv
      refine ⟨none, ⟨rfl, fun _ => rfl⟩, ?_⟩
      cbv
      refine ⟨fun h3 => ?_, fun h3 => ?_⟩
      · have ht := setM_tru h3.out
        cbv
        refine ⟨some (some s), ⟨ha⟩, ?_⟩
        cbv
        refine ⟨none, ⟨rfl, fun _ => rfl⟩, ?_⟩
        cbv
        refine ⟨fun h4 => ?_, fun h4 => ?_⟩
        · have hss := setM_ntru h4.out
          have hs : (t va.id && !s va.id) = true := by rw [ht, hss]; rfl
          have e := col_yes hva (s := (fun y => t y && !s y)) hs
          cbv
          refine ⟨[va.id], ⟨by ((repeat' first | exact LeL.nil | exact Le.refl _ | refine LeL.cons ?_ ?_ | exact Le.ic rfl | exact Le.bc rfl | exact Le.i rfl | exact Le.b rfl | exact Le.sl rfl | exact Le.mp rfl | exact Le.csl rfl | exact Le.cslsl rfl | exact Le.nils rfl (fun _ => ⟨trivial, trivial⟩) | refine Le.lst rfl (fun _ _ => rfl) (fun _ => ⟨trivial, trivial⟩) ?_ | refine Le.lst rfl (fun _ _ => rfl) (fun _ => ⟨fun _ => ⟨trivial, trivial⟩, trivial⟩) ?_ | exact Le.nils rfl (fun _ => ⟨fun _ => ⟨trivial, trivial⟩, trivial⟩) | exact Le.nils rfl (fun x => (cCm_ok x).1) | refine Le.lst rfl (fun _ _ => rfl) (fun x => (cCm_ok x).1) ?_ | refine Le.agg ?_ | refine Le.tup ?_ | refine Le.fn ?_ ?_ | refine Le.spt ?_ | exact Le.any _)), by show ((((ids x.h).take i).filter (fun y => t y && !s y)).length + 1) * 8 ≤ _; omega, by show (((ids x.h).take i).filter (fun y => t y && !s y)).length + 1 ≤ 9223372036854775807; omega⟩, ?_⟩
          cbv
          exact ⟨i + 1, by ((try cbv) <;> (repeat' (first | with_reducible exact trivial | with_reducible refine And.intro ?_ ?_)) <;> (try first | exact SlotLe.refl _ | exact SlotLe.dyn rfl | exact SlotLe.map rfl | exact SlotLe.iter rfl rfl (.inl rfl) | exact SlotLe.iter rfl rfl (.inr rfl) | refine SlotLe.fix ?_ | refine SlotLe.dyn ?_) <;> ((repeat' first | exact LeL.nil | exact Le.refl _ | refine LeL.cons ?_ ?_ | exact Le.ic rfl | exact Le.bc rfl | exact Le.i rfl | exact Le.b rfl | exact Le.sl rfl | exact Le.mp rfl | exact Le.csl rfl | exact Le.cslsl rfl | exact Le.nils rfl (fun _ => ⟨trivial, trivial⟩) | refine Le.lst rfl (fun _ _ => rfl) (fun _ => ⟨trivial, trivial⟩) ?_ | refine Le.lst rfl (fun _ _ => rfl) (fun _ => ⟨fun _ => ⟨trivial, trivial⟩, trivial⟩) ?_ | exact Le.nils rfl (fun _ => ⟨fun _ => ⟨trivial, trivial⟩, trivial⟩) | exact Le.nils rfl (fun x => (cCm_ok x).1) | refine Le.lst rfl (fun _ _ => rfl) (fun x => (cCm_ok x).1) ?_ | refine Le.agg ?_ | refine Le.tup ?_ | refine Le.fn ?_ ?_ | refine Le.spt ?_ | exact Le.any _))) <;> (refine .i ?_; show IntKind.i64.wrap ((i : Int) + 1) = ((i + 1 : Nat) : Int); rw [w64 (by omega) (by omega)]; rfl), by ((try cbv) <;> (repeat' (first | with_reducible exact trivial | with_reducible refine And.intro ?_ ?_)) <;> (try first | exact SlotLe.refl _ | exact SlotLe.dyn rfl | exact SlotLe.map rfl | exact SlotLe.iter rfl rfl (.inl rfl) | exact SlotLe.iter rfl rfl (.inr rfl) | refine SlotLe.fix ?_ | refine SlotLe.dyn ?_) <;> ((repeat' first | exact LeL.nil | exact Le.refl _ | refine LeL.cons ?_ ?_ | exact Le.ic rfl | exact Le.bc rfl | exact Le.i rfl | exact Le.b rfl | exact Le.sl rfl | exact Le.mp rfl | exact Le.csl rfl | exact Le.cslsl rfl | exact Le.nils rfl (fun _ => ⟨trivial, trivial⟩) | refine Le.lst rfl (fun _ _ => rfl) (fun _ => ⟨trivial, trivial⟩) ?_ | refine Le.lst rfl (fun _ _ => rfl) (fun _ => ⟨fun _ => ⟨trivial, trivial⟩, trivial⟩) ?_ | exact Le.nils rfl (fun _ => ⟨fun _ => ⟨trivial, trivial⟩, trivial⟩) | exact Le.nils rfl (fun x => (cCm_ok x).1) | refine Le.lst rfl (fun _ _ => rfl) (fun x => (cCm_ok x).1) ?_ | refine Le.agg ?_ | refine Le.tup ?_ | refine Le.fn ?_ ?_ | refine Le.spt ?_ | exact Le.any _))) <;> exact e.symm, ⟨by show i + 1 ≤ x.h.length ∧ x.h.length - (i + 1) < x.h.length - i; omega⟩⟩

        · have hss := setM_nfls h4.out
          have hs : (t va.id && !s va.id) = false := by rw [ht, hss]; rfl
          have e := col_no hva (s := (fun y => t y && !s y)) hs
          cbv
          exact ⟨i + 1, by ((try cbv) <;> (repeat' (first | with_reducible exact trivial | with_reducible refine And.intro ?_ ?_)) <;> (try first | exact SlotLe.refl _ | exact SlotLe.dyn rfl | exact SlotLe.map rfl | exact SlotLe.iter rfl rfl (.inl rfl) | exact SlotLe.iter rfl rfl (.inr rfl) | refine SlotLe.fix ?_ | refine SlotLe.dyn ?_) <;> ((repeat' first | exact LeL.nil | exact Le.refl _ | refine LeL.cons ?_ ?_ | exact Le.ic rfl | exact Le.bc rfl | exact Le.i rfl | exact Le.b rfl | exact Le.sl rfl | exact Le.mp rfl | exact Le.csl rfl | exact Le.cslsl rfl | exact Le.nils rfl (fun _ => ⟨trivial, trivial⟩) | refine Le.lst rfl (fun _ _ => rfl) (fun _ => ⟨trivial, trivial⟩) ?_ | refine Le.lst rfl (fun _ _ => rfl) (fun _ => ⟨fun _ => ⟨trivial, trivial⟩, trivial⟩) ?_ | exact Le.nils rfl (fun _ => ⟨fun _ => ⟨trivial, trivial⟩, trivial⟩) | exact Le.nils rfl (fun x => (cCm_ok x).1) | refine Le.lst rfl (fun _ _ => rfl) (fun x => (cCm_ok x).1) ?_ | refine Le.agg ?_ | refine Le.tup ?_ | refine Le.fn ?_ ?_ | refine Le.spt ?_ | exact Le.any _))) <;> (refine .i ?_; show IntKind.i64.wrap ((i : Int) + 1) = ((i + 1 : Nat) : Int); rw [w64 (by omega) (by omega)]; rfl), by ((try cbv) <;> (repeat' (first | with_reducible exact trivial | with_reducible refine And.intro ?_ ?_)) <;> (try first | exact SlotLe.refl _ | exact SlotLe.dyn rfl | exact SlotLe.map rfl | exact SlotLe.iter rfl rfl (.inl rfl) | exact SlotLe.iter rfl rfl (.inr rfl) | refine SlotLe.fix ?_ | refine SlotLe.dyn ?_) <;> ((repeat' first | exact LeL.nil | exact Le.refl _ | refine LeL.cons ?_ ?_ | exact Le.ic rfl | exact Le.bc rfl | exact Le.i rfl | exact Le.b rfl | exact Le.sl rfl | exact Le.mp rfl | exact Le.csl rfl | exact Le.cslsl rfl | exact Le.nils rfl (fun _ => ⟨trivial, trivial⟩) | refine Le.lst rfl (fun _ _ => rfl) (fun _ => ⟨trivial, trivial⟩) ?_ | refine Le.lst rfl (fun _ _ => rfl) (fun _ => ⟨fun _ => ⟨trivial, trivial⟩, trivial⟩) ?_ | exact Le.nils rfl (fun _ => ⟨fun _ => ⟨trivial, trivial⟩, trivial⟩) | exact Le.nils rfl (fun x => (cCm_ok x).1) | refine Le.lst rfl (fun _ _ => rfl) (fun x => (cCm_ok x).1) ?_ | refine Le.agg ?_ | refine Le.tup ?_ | refine Le.fn ?_ ?_ | refine Le.spt ?_ | exact Le.any _))) <;> exact e.symm, ⟨by show i + 1 ≤ x.h.length ∧ x.h.length - (i + 1) < x.h.length - i; omega⟩⟩

      · have ht := setM_fls h3.out
        have hs : (t va.id && !s va.id) = false := by rw [ht]; rfl
        have e := col_no hva (s := (fun y => t y && !s y)) hs
        cbv
        exact ⟨i + 1, by ((try cbv) <;> (repeat' (first | with_reducible exact trivial | with_reducible refine And.intro ?_ ?_)) <;> (try first | exact SlotLe.refl _ | exact SlotLe.dyn rfl | exact SlotLe.map rfl | exact SlotLe.iter rfl rfl (.inl rfl) | exact SlotLe.iter rfl rfl (.inr rfl) | refine SlotLe.fix ?_ | refine SlotLe.dyn ?_) <;> ((repeat' first | exact LeL.nil | exact Le.refl _ | refine LeL.cons ?_ ?_ | exact Le.ic rfl | exact Le.bc rfl | exact Le.i rfl | exact Le.b rfl | exact Le.sl rfl | exact Le.mp rfl | exact Le.csl rfl | exact Le.cslsl rfl | exact Le.nils rfl (fun _ => ⟨trivial, trivial⟩) | refine Le.lst rfl (fun _ _ => rfl) (fun _ => ⟨trivial, trivial⟩) ?_ | refine Le.lst rfl (fun _ _ => rfl) (fun _ => ⟨fun _ => ⟨trivial, trivial⟩, trivial⟩) ?_ | exact Le.nils rfl (fun _ => ⟨fun _ => ⟨trivial, trivial⟩, trivial⟩) | exact Le.nils rfl (fun x => (cCm_ok x).1) | refine Le.lst rfl (fun _ _ => rfl) (fun x => (cCm_ok x).1) ?_ | refine Le.agg ?_ | refine Le.tup ?_ | refine Le.fn ?_ ?_ | refine Le.spt ?_ | exact Le.any _))) <;> (refine .i ?_; show IntKind.i64.wrap ((i : Int) + 1) = ((i + 1 : Nat) : Int); rw [w64 (by omega) (by omega)]; rfl), by ((try cbv) <;> (repeat' (first | with_reducible exact trivial | with_reducible refine And.intro ?_ ?_)) <;> (try first | exact SlotLe.refl _ | exact SlotLe.dyn rfl | exact SlotLe.map rfl | exact SlotLe.iter rfl rfl (.inl rfl) | exact SlotLe.iter rfl rfl (.inr rfl) | refine SlotLe.fix ?_ | refine SlotLe.dyn ?_) <;> ((repeat' first | exact LeL.nil | exact Le.refl _ | refine LeL.cons ?_ ?_ | exact Le.ic rfl | exact Le.bc rfl | exact Le.i rfl | exact Le.b rfl | exact Le.sl rfl | exact Le.mp rfl | exact Le.csl rfl | exact Le.cslsl rfl | exact Le.nils rfl (fun _ => ⟨trivial, trivial⟩) | refine Le.lst rfl (fun _ _ => rfl) (fun _ => ⟨trivial, trivial⟩) ?_ | refine Le.lst rfl (fun _ _ => rfl) (fun _ => ⟨fun _ => ⟨trivial, trivial⟩, trivial⟩) ?_ | exact Le.nils rfl (fun _ => ⟨fun _ => ⟨trivial, trivial⟩, trivial⟩) | exact Le.nils rfl (fun x => (cCm_ok x).1) | refine Le.lst rfl (fun _ _ => rfl) (fun x => (cCm_ok x).1) ?_ | refine Le.agg ?_ | refine Le.tup ?_ | refine Le.fn ?_ ?_ | refine Le.spt ?_ | exact Le.any _))) <;> exact e.symm, ⟨by show i + 1 ≤ x.h.length ∧ x.h.length - (i + 1) < x.h.length - i; omega⟩⟩
    · have h2 := h2.out
      have hlt : ¬ i < x.h.length := by simp [ltB] at h2; ((try simp only [Go.Vc.natc] at *); omega)
      have e : (ids x.h).take i = ids x.h := List.take_of_length_le (by simp [ids]; omega)
      cbv
      exact ⟨.tup (.cons (.sl (by rw [hq, e])) (.cons (.ic (by rw [hq])) .nil))⟩


/-- The parents of the first i commits. -/
def parsN (h : List Cm) (i : Nat) : Int → Bool := fun j => (h.take i).any fun c => c.par.contains j
theorem parsN_next {h : List Cm} {i : Nat} {c : Cm} (hc : h[i]? = some c) : parsN h (i + 1) = withS (parsN h i) c.par := by
  funext j
  unfold parsN withS
  rw [List.take_add_one, hc]
  simp
theorem withS_next {s : Int → Bool} {l : List Int} {i : Nat} {p : Int} (hp : l[i]? = some p) : (fun j => if j = p then some () else setM (withS s (l.take i)) j) = setM (withS s (l.take (i + 1))) := by
  rw [withS_put, List.take_add_one, hp]
  rfl
def headsS (h : List Cm) : List Int := (ids h).filter fun j => !parsN h h.length j
def HeadsS : Vc.Spec where
  α := List Cm
  args x := [.sl 4 cCm (fun _ => x)]
  pre x := Hs x
  res x := .sl 1 cU64 (fun _ => headsS x)
theorem Heads_ok : SpecOk (PP ()) 28 HeadsS := by
  refine spec_of_vc (lv := 5) ctx17_ok ctx17_inl (fnOk_of Try.func28 (by kernel_rfl)) (by kernel_rfl) (fun a => by simp [HeadsS, LFL, LF, cU64, cCm, Cm.cells, cSet, cTrue]) (fun a => by simp [HeadsS, LFL, LF, cU64, cCm, Cm.cells, cSet, cTrue]) ?_
  intro x hx
  change List Cm at x
  have H : Hs x := hx
  have hn := H.n
  refine ⟨?_⟩
  cbv
  refine Sat.loopD ctx17_ok ctx17_inl (lv := 5) (by kernel_rfl) 2 11 [] (fun i : Nat => [(11, .i .i64 (fun _ => (i : Int)))]) (fun i => [(0, .map .u64 cTrue (fun _ => setM (parsN x i)))])
    (fun i => i ≤ x.length) (fun i => x.length - i) 0 (by ((try cbv) <;> (repeat' (first | with_reducible exact trivial | with_reducible refine And.intro ?_ ?_)) <;> (try first | exact SlotLe.refl _ | exact SlotLe.dyn rfl | exact SlotLe.map rfl | exact SlotLe.iter rfl rfl (.inl rfl) | exact SlotLe.iter rfl rfl (.inr rfl) | refine SlotLe.fix ?_ | refine SlotLe.dyn ?_) <;> ((repeat' first | exact LeL.nil | exact Le.refl _ | refine LeL.cons ?_ ?_ | exact Le.ic rfl | exact Le.bc rfl | exact Le.i rfl | exact Le.b rfl | exact Le.sl rfl | exact Le.mp rfl | exact Le.csl rfl | exact Le.cslsl rfl | exact Le.nils rfl (fun _ => ⟨trivial, trivial⟩) | refine Le.lst rfl (fun _ _ => rfl) (fun _ => ⟨trivial, trivial⟩) ?_ | refine Le.lst rfl (fun _ _ => rfl) (fun _ => ⟨fun _ => ⟨trivial, trivial⟩, trivial⟩) ?_ | exact Le.nils rfl (fun _ => ⟨fun _ => ⟨trivial, trivial⟩, trivial⟩) | exact Le.nils rfl (fun x => (cCm_ok x).1) | refine Le.lst rfl (fun _ _ => rfl) (fun x => (cCm_ok x).1) ?_ | refine Le.agg ?_ | refine Le.tup ?_ | refine Le.fn ?_ ?_ | refine Le.spt ?_ | exact Le.any _)))) (by ((try cbv) <;> (repeat' (first | with_reducible exact trivial | with_reducible refine And.intro ?_ ?_)) <;> (try first | exact SlotLe.refl _ | exact SlotLe.dyn rfl | exact SlotLe.map rfl | exact SlotLe.iter rfl rfl (.inl rfl) | exact SlotLe.iter rfl rfl (.inr rfl) | refine SlotLe.fix ?_ | refine SlotLe.dyn ?_) <;> ((repeat' first | exact LeL.nil | exact Le.refl _ | refine LeL.cons ?_ ?_ | exact Le.ic rfl | exact Le.bc rfl | exact Le.i rfl | exact Le.b rfl | exact Le.sl rfl | exact Le.mp rfl | exact Le.csl rfl | exact Le.cslsl rfl | exact Le.nils rfl (fun _ => ⟨trivial, trivial⟩) | refine Le.lst rfl (fun _ _ => rfl) (fun _ => ⟨trivial, trivial⟩) ?_ | refine Le.lst rfl (fun _ _ => rfl) (fun _ => ⟨fun _ => ⟨trivial, trivial⟩, trivial⟩) ?_ | exact Le.nils rfl (fun _ => ⟨fun _ => ⟨trivial, trivial⟩, trivial⟩) | exact Le.nils rfl (fun x => (cCm_ok x).1) | refine Le.lst rfl (fun _ _ => rfl) (fun x => (cCm_ok x).1) ?_ | refine Le.agg ?_ | refine Le.tup ?_ | refine Le.fn ?_ ?_ | refine Le.spt ?_ | exact Le.any _))) <;> exact SlotLe.map rfl) (by omega) ?_
  intro i hi
  cbv
  refine ⟨fun h2 => ?_, fun h2 => ?_⟩
  · have h2 := h2.out
    have hlt : i < x.length := by simp [ltB] at h2; ((try simp only [Go.Vc.natc] at *); omega)
    obtain ⟨va, hva⟩ : ∃ v, x[i]? = some v := ⟨_, List.getElem?_eq_getElem hlt⟩
    have hm := H.get hva
    have nx := parsN_next hva
    cbv
    refine ⟨va, ⟨Int.natCast_nonneg i, hva⟩, ?_⟩
    cbv
    refine Sat.loopD ctx17_ok ctx17_inl (lv := 5) (by kernel_rfl) 3 18 [] (fun j : Nat => [(18, .i .i64 (fun _ => (j : Int)))]) (fun j => [(0, .map .u64 cTrue (fun _ => setM (withS (parsN x i) (va.par.take j))))])
      (fun j => j ≤ va.par.length) (fun j => va.par.length - j) 0 (by ((try cbv) <;> (repeat' (first | with_reducible exact trivial | with_reducible refine And.intro ?_ ?_)) <;> (try first | exact SlotLe.refl _ | exact SlotLe.dyn rfl | exact SlotLe.map rfl | exact SlotLe.iter rfl rfl (.inl rfl) | exact SlotLe.iter rfl rfl (.inr rfl) | refine SlotLe.fix ?_ | refine SlotLe.dyn ?_) <;> ((repeat' first | exact LeL.nil | exact Le.refl _ | refine LeL.cons ?_ ?_ | exact Le.ic rfl | exact Le.bc rfl | exact Le.i rfl | exact Le.b rfl | exact Le.sl rfl | exact Le.mp rfl | exact Le.csl rfl | exact Le.cslsl rfl | exact Le.nils rfl (fun _ => ⟨trivial, trivial⟩) | refine Le.lst rfl (fun _ _ => rfl) (fun _ => ⟨trivial, trivial⟩) ?_ | refine Le.lst rfl (fun _ _ => rfl) (fun _ => ⟨fun _ => ⟨trivial, trivial⟩, trivial⟩) ?_ | exact Le.nils rfl (fun _ => ⟨fun _ => ⟨trivial, trivial⟩, trivial⟩) | exact Le.nils rfl (fun x => (cCm_ok x).1) | refine Le.lst rfl (fun _ _ => rfl) (fun x => (cCm_ok x).1) ?_ | refine Le.agg ?_ | refine Le.tup ?_ | refine Le.fn ?_ ?_ | refine Le.spt ?_ | exact Le.any _)))) (by ((try cbv) <;> (repeat' (first | with_reducible exact trivial | with_reducible refine And.intro ?_ ?_)) <;> (try first | exact SlotLe.refl _ | exact SlotLe.dyn rfl | exact SlotLe.map rfl | exact SlotLe.iter rfl rfl (.inl rfl) | exact SlotLe.iter rfl rfl (.inr rfl) | refine SlotLe.fix ?_ | refine SlotLe.dyn ?_) <;> ((repeat' first | exact LeL.nil | exact Le.refl _ | refine LeL.cons ?_ ?_ | exact Le.ic rfl | exact Le.bc rfl | exact Le.i rfl | exact Le.b rfl | exact Le.sl rfl | exact Le.mp rfl | exact Le.csl rfl | exact Le.cslsl rfl | exact Le.nils rfl (fun _ => ⟨trivial, trivial⟩) | refine Le.lst rfl (fun _ _ => rfl) (fun _ => ⟨trivial, trivial⟩) ?_ | refine Le.lst rfl (fun _ _ => rfl) (fun _ => ⟨fun _ => ⟨trivial, trivial⟩, trivial⟩) ?_ | exact Le.nils rfl (fun _ => ⟨fun _ => ⟨trivial, trivial⟩, trivial⟩) | exact Le.nils rfl (fun x => (cCm_ok x).1) | refine Le.lst rfl (fun _ _ => rfl) (fun x => (cCm_ok x).1) ?_ | refine Le.agg ?_ | refine Le.tup ?_ | refine Le.fn ?_ ?_ | refine Le.spt ?_ | exact Le.any _))) <;> exact SlotLe.map (by rw [List.take_zero, withS_nil])) (by omega) ?_
    intro j hj
    cbv
    refine ⟨fun h3 => ?_, fun h3 => ?_⟩
    · have h3 := h3.out
      have hltj : j < va.par.length := by simp [ltB] at h3; ((try simp only [Go.Vc.natc] at *); omega)
      obtain ⟨vb, hvb⟩ : ∃ v, va.par[j]? = some v := ⟨_, List.getElem?_eq_getElem hltj⟩
      have put := withS_next (s := parsN x i) hvb
      cbv
      refine ⟨vb, ⟨Int.natCast_nonneg j, hvb⟩, ?_⟩
      cbv
      refine ⟨(), ⟨by ((repeat' first | exact LeL.nil | exact Le.refl _ | refine LeL.cons ?_ ?_ | exact Le.ic rfl | exact Le.bc rfl | exact Le.i rfl | exact Le.b rfl | exact Le.sl rfl | exact Le.mp rfl | exact Le.csl rfl | exact Le.cslsl rfl | exact Le.nils rfl (fun _ => ⟨trivial, trivial⟩) | refine Le.lst rfl (fun _ _ => rfl) (fun _ => ⟨trivial, trivial⟩) ?_ | refine Le.lst rfl (fun _ _ => rfl) (fun _ => ⟨fun _ => ⟨trivial, trivial⟩, trivial⟩) ?_ | exact Le.nils rfl (fun _ => ⟨fun _ => ⟨trivial, trivial⟩, trivial⟩) | exact Le.nils rfl (fun x => (cCm_ok x).1) | refine Le.lst rfl (fun _ _ => rfl) (fun x => (cCm_ok x).1) ?_ | refine Le.agg ?_ | refine Le.tup ?_ | refine Le.fn ?_ ?_ | refine Le.spt ?_ | exact Le.any _))⟩, ?_⟩
      cbv
      exact ⟨j + 1, by ((try cbv) <;> (repeat' (first | with_reducible exact trivial | with_reducible refine And.intro ?_ ?_)) <;> (try first | exact SlotLe.refl _ | exact SlotLe.dyn rfl | exact SlotLe.map rfl | exact SlotLe.iter rfl rfl (.inl rfl) | exact SlotLe.iter rfl rfl (.inr rfl) | refine SlotLe.fix ?_ | refine SlotLe.dyn ?_) <;> ((repeat' first | exact LeL.nil | exact Le.refl _ | refine LeL.cons ?_ ?_ | exact Le.ic rfl | exact Le.bc rfl | exact Le.i rfl | exact Le.b rfl | exact Le.sl rfl | exact Le.mp rfl | exact Le.csl rfl | exact Le.cslsl rfl | exact Le.nils rfl (fun _ => ⟨trivial, trivial⟩) | refine Le.lst rfl (fun _ _ => rfl) (fun _ => ⟨trivial, trivial⟩) ?_ | refine Le.lst rfl (fun _ _ => rfl) (fun _ => ⟨fun _ => ⟨trivial, trivial⟩, trivial⟩) ?_ | exact Le.nils rfl (fun _ => ⟨fun _ => ⟨trivial, trivial⟩, trivial⟩) | exact Le.nils rfl (fun x => (cCm_ok x).1) | refine Le.lst rfl (fun _ _ => rfl) (fun x => (cCm_ok x).1) ?_ | refine Le.agg ?_ | refine Le.tup ?_ | refine Le.fn ?_ ?_ | refine Le.spt ?_ | exact Le.any _))) <;> (refine .i ?_; show IntKind.i64.wrap ((j : Int) + 1) = ((j + 1 : Nat) : Int); rw [w64 (by omega) (by omega)]; rfl), by ((try cbv) <;> (repeat' (first | with_reducible exact trivial | with_reducible refine And.intro ?_ ?_)) <;> (try first | exact SlotLe.refl _ | exact SlotLe.dyn rfl | exact SlotLe.map rfl | exact SlotLe.iter rfl rfl (.inl rfl) | exact SlotLe.iter rfl rfl (.inr rfl) | refine SlotLe.fix ?_ | refine SlotLe.dyn ?_) <;> ((repeat' first | exact LeL.nil | exact Le.refl _ | refine LeL.cons ?_ ?_ | exact Le.ic rfl | exact Le.bc rfl | exact Le.i rfl | exact Le.b rfl | exact Le.sl rfl | exact Le.mp rfl | exact Le.csl rfl | exact Le.cslsl rfl | exact Le.nils rfl (fun _ => ⟨trivial, trivial⟩) | refine Le.lst rfl (fun _ _ => rfl) (fun _ => ⟨trivial, trivial⟩) ?_ | refine Le.lst rfl (fun _ _ => rfl) (fun _ => ⟨fun _ => ⟨trivial, trivial⟩, trivial⟩) ?_ | exact Le.nils rfl (fun _ => ⟨fun _ => ⟨trivial, trivial⟩, trivial⟩) | exact Le.nils rfl (fun x => (cCm_ok x).1) | refine Le.lst rfl (fun _ _ => rfl) (fun x => (cCm_ok x).1) ?_ | refine Le.agg ?_ | refine Le.tup ?_ | refine Le.fn ?_ ?_ | refine Le.spt ?_ | exact Le.any _))) <;> exact SlotLe.map put, ⟨by show j + 1 ≤ va.par.length ∧ va.par.length - (j + 1) < va.par.length - j; omega⟩⟩
    · have h3 := h3.out
      have hltj : ¬ j < va.par.length := by simp [ltB] at h3; ((try simp only [Go.Vc.natc] at *); omega)
      have e : setM (withS (parsN x i) (va.par.take j)) = setM (parsN x (i + 1)) := by rw [List.take_of_length_le (by omega), nx]
      cbv
      exact ⟨i + 1, by ((try cbv) <;> (repeat' (first | with_reducible exact trivial | with_reducible refine And.intro ?_ ?_)) <;> (try first | exact SlotLe.refl _ | exact SlotLe.dyn rfl | exact SlotLe.map rfl | exact SlotLe.iter rfl rfl (.inl rfl) | exact SlotLe.iter rfl rfl (.inr rfl) | refine SlotLe.fix ?_ | refine SlotLe.dyn ?_) <;> ((repeat' first | exact LeL.nil | exact Le.refl _ | refine LeL.cons ?_ ?_ | exact Le.ic rfl | exact Le.bc rfl | exact Le.i rfl | exact Le.b rfl | exact Le.sl rfl | exact Le.mp rfl | exact Le.csl rfl | exact Le.cslsl rfl | exact Le.nils rfl (fun _ => ⟨trivial, trivial⟩) | refine Le.lst rfl (fun _ _ => rfl) (fun _ => ⟨trivial, trivial⟩) ?_ | refine Le.lst rfl (fun _ _ => rfl) (fun _ => ⟨fun _ => ⟨trivial, trivial⟩, trivial⟩) ?_ | exact Le.nils rfl (fun _ => ⟨fun _ => ⟨trivial, trivial⟩, trivial⟩) | exact Le.nils rfl (fun x => (cCm_ok x).1) | refine Le.lst rfl (fun _ _ => rfl) (fun x => (cCm_ok x).1) ?_ | refine Le.agg ?_ | refine Le.tup ?_ | refine Le.fn ?_ ?_ | refine Le.spt ?_ | exact Le.any _))) <;> (refine .i ?_; show IntKind.i64.wrap ((i : Int) + 1) = ((i + 1 : Nat) : Int); rw [w64 (by omega) (by omega)]; rfl), by ((try cbv) <;> (repeat' (first | with_reducible exact trivial | with_reducible refine And.intro ?_ ?_)) <;> (try first | exact SlotLe.refl _ | exact SlotLe.dyn rfl | exact SlotLe.map rfl | exact SlotLe.iter rfl rfl (.inl rfl) | exact SlotLe.iter rfl rfl (.inr rfl) | refine SlotLe.fix ?_ | refine SlotLe.dyn ?_) <;> ((repeat' first | exact LeL.nil | exact Le.refl _ | refine LeL.cons ?_ ?_ | exact Le.ic rfl | exact Le.bc rfl | exact Le.i rfl | exact Le.b rfl | exact Le.sl rfl | exact Le.mp rfl | exact Le.csl rfl | exact Le.cslsl rfl | exact Le.nils rfl (fun _ => ⟨trivial, trivial⟩) | refine Le.lst rfl (fun _ _ => rfl) (fun _ => ⟨trivial, trivial⟩) ?_ | refine Le.lst rfl (fun _ _ => rfl) (fun _ => ⟨fun _ => ⟨trivial, trivial⟩, trivial⟩) ?_ | exact Le.nils rfl (fun _ => ⟨fun _ => ⟨trivial, trivial⟩, trivial⟩) | exact Le.nils rfl (fun x => (cCm_ok x).1) | refine Le.lst rfl (fun _ _ => rfl) (fun x => (cCm_ok x).1) ?_ | refine Le.agg ?_ | refine Le.tup ?_ | refine Le.fn ?_ ?_ | refine Le.spt ?_ | exact Le.any _))) <;> exact SlotLe.map e, ⟨by show i + 1 ≤ x.length ∧ x.length - (i + 1) < x.length - i; omega⟩⟩
  · have h2 := h2.out
    have hlt : ¬ i < x.length := by simp [ltB] at h2; ((try simp only [Go.Vc.natc] at *); omega)
    have hi : i = x.length := by omega
    subst hi
    cbv
    refine Sat.adoptc 2 0 27 1 eltU64 cU64_ok rfl rfl ?_
    refine Sat.loopD ctx17_ok ctx17_inl (lv := 4) (by kernel_rfl) 7 8 [(.c 2 0, 6)] (fun i : Nat => [(8, .i .i64 (fun _ => (i : Int)))]) (fun i => [(6, .dyn 27 1 cU64 (fun _ => ((ids x).take i).filter (fun j => !parsN x x.length j)))])
      (fun i => i ≤ x.length) (fun i => x.length - i) 0 (by ((try cbv) <;> (repeat' (first | with_reducible exact trivial | with_reducible refine And.intro ?_ ?_)) <;> (try first | exact SlotLe.refl _ | exact SlotLe.dyn rfl | exact SlotLe.map rfl | exact SlotLe.iter rfl rfl (.inl rfl) | exact SlotLe.iter rfl rfl (.inr rfl) | refine SlotLe.fix ?_ | refine SlotLe.dyn ?_) <;> ((repeat' first | exact LeL.nil | exact Le.refl _ | refine LeL.cons ?_ ?_ | exact Le.ic rfl | exact Le.bc rfl | exact Le.i rfl | exact Le.b rfl | exact Le.sl rfl | exact Le.mp rfl | exact Le.csl rfl | exact Le.cslsl rfl | exact Le.nils rfl (fun _ => ⟨trivial, trivial⟩) | refine Le.lst rfl (fun _ _ => rfl) (fun _ => ⟨trivial, trivial⟩) ?_ | refine Le.lst rfl (fun _ _ => rfl) (fun _ => ⟨fun _ => ⟨trivial, trivial⟩, trivial⟩) ?_ | exact Le.nils rfl (fun _ => ⟨fun _ => ⟨trivial, trivial⟩, trivial⟩) | exact Le.nils rfl (fun x => (cCm_ok x).1) | refine Le.lst rfl (fun _ _ => rfl) (fun x => (cCm_ok x).1) ?_ | refine Le.agg ?_ | refine Le.tup ?_ | refine Le.fn ?_ ?_ | refine Le.spt ?_ | exact Le.any _)))) (by ((try cbv) <;> (repeat' (first | with_reducible exact trivial | with_reducible refine And.intro ?_ ?_)) <;> (try first | exact SlotLe.refl _ | exact SlotLe.dyn rfl | exact SlotLe.map rfl | exact SlotLe.iter rfl rfl (.inl rfl) | exact SlotLe.iter rfl rfl (.inr rfl) | refine SlotLe.fix ?_ | refine SlotLe.dyn ?_) <;> ((repeat' first | exact LeL.nil | exact Le.refl _ | refine LeL.cons ?_ ?_ | exact Le.ic rfl | exact Le.bc rfl | exact Le.i rfl | exact Le.b rfl | exact Le.sl rfl | exact Le.mp rfl | exact Le.csl rfl | exact Le.cslsl rfl | exact Le.nils rfl (fun _ => ⟨trivial, trivial⟩) | refine Le.lst rfl (fun _ _ => rfl) (fun _ => ⟨trivial, trivial⟩) ?_ | refine Le.lst rfl (fun _ _ => rfl) (fun _ => ⟨fun _ => ⟨trivial, trivial⟩, trivial⟩) ?_ | exact Le.nils rfl (fun _ => ⟨fun _ => ⟨trivial, trivial⟩, trivial⟩) | exact Le.nils rfl (fun x => (cCm_ok x).1) | refine Le.lst rfl (fun _ _ => rfl) (fun x => (cCm_ok x).1) ?_ | refine Le.agg ?_ | refine Le.tup ?_ | refine Le.fn ?_ ?_ | refine Le.spt ?_ | exact Le.any _)))) (by omega) ?_
    intro i hi
    have hn := H.n
    cbv
    refine ⟨fun h2 => ?_, fun h2 => ?_⟩
    · have h2 := h2.out
      have hlt : i < x.length := by simp [ltB] at h2; ((try simp only [Go.Vc.natc] at *); omega)
      obtain ⟨va, hva⟩ : ∃ v, x[i]? = some v := ⟨_, List.getElem?_eq_getElem hlt⟩
      have hlen := col_len (fun j => !parsN x x.length j) x i
      cbv
      refine ⟨va, ⟨Int.natCast_nonneg i, hva⟩, ?_⟩
      cbv
      refine ⟨none, ⟨rfl, fun _ => rfl⟩, ?_⟩
      cbv
      refine ⟨fun h4 => ?_, fun h4 => ?_⟩
      · have hss := setM_ntru h4.out
        have hs : (!parsN x x.length va.id) = true := by rw [hss]; rfl
        have e := col_yes hva (s := (fun j => !parsN x x.length j)) hs
        cbv
        refine ⟨[va.id], ⟨by ((repeat' first | exact LeL.nil | exact Le.refl _ | refine LeL.cons ?_ ?_ | exact Le.ic rfl | exact Le.bc rfl | exact Le.i rfl | exact Le.b rfl | exact Le.sl rfl | exact Le.mp rfl | exact Le.csl rfl | exact Le.cslsl rfl | exact Le.nils rfl (fun _ => ⟨trivial, trivial⟩) | refine Le.lst rfl (fun _ _ => rfl) (fun _ => ⟨trivial, trivial⟩) ?_ | refine Le.lst rfl (fun _ _ => rfl) (fun _ => ⟨fun _ => ⟨trivial, trivial⟩, trivial⟩) ?_ | exact Le.nils rfl (fun _ => ⟨fun _ => ⟨trivial, trivial⟩, trivial⟩) | exact Le.nils rfl (fun x => (cCm_ok x).1) | refine Le.lst rfl (fun _ _ => rfl) (fun x => (cCm_ok x).1) ?_ | refine Le.agg ?_ | refine Le.tup ?_ | refine Le.fn ?_ ?_ | refine Le.spt ?_ | exact Le.any _)), by show ((((ids x).take i).filter (fun j => !parsN x x.length j)).length + 1) * 8 ≤ _; omega, by show (((ids x).take i).filter (fun j => !parsN x x.length j)).length + 1 ≤ 9223372036854775807; omega⟩, ?_⟩
        cbv
        exact ⟨i + 1, by ((try cbv) <;> (repeat' (first | with_reducible exact trivial | with_reducible refine And.intro ?_ ?_)) <;> (try first | exact SlotLe.refl _ | exact SlotLe.dyn rfl | exact SlotLe.map rfl | exact SlotLe.iter rfl rfl (.inl rfl) | exact SlotLe.iter rfl rfl (.inr rfl) | refine SlotLe.fix ?_ | refine SlotLe.dyn ?_) <;> ((repeat' first | exact LeL.nil | exact Le.refl _ | refine LeL.cons ?_ ?_ | exact Le.ic rfl | exact Le.bc rfl | exact Le.i rfl | exact Le.b rfl | exact Le.sl rfl | exact Le.mp rfl | exact Le.csl rfl | exact Le.cslsl rfl | exact Le.nils rfl (fun _ => ⟨trivial, trivial⟩) | refine Le.lst rfl (fun _ _ => rfl) (fun _ => ⟨trivial, trivial⟩) ?_ | refine Le.lst rfl (fun _ _ => rfl) (fun _ => ⟨fun _ => ⟨trivial, trivial⟩, trivial⟩) ?_ | exact Le.nils rfl (fun _ => ⟨fun _ => ⟨trivial, trivial⟩, trivial⟩) | exact Le.nils rfl (fun x => (cCm_ok x).1) | refine Le.lst rfl (fun _ _ => rfl) (fun x => (cCm_ok x).1) ?_ | refine Le.agg ?_ | refine Le.tup ?_ | refine Le.fn ?_ ?_ | refine Le.spt ?_ | exact Le.any _))) <;> (refine .i ?_; show IntKind.i64.wrap ((i : Int) + 1) = ((i + 1 : Nat) : Int); rw [w64 (by omega) (by omega)]; rfl), by ((try cbv) <;> (repeat' (first | with_reducible exact trivial | with_reducible refine And.intro ?_ ?_)) <;> (try first | exact SlotLe.refl _ | exact SlotLe.dyn rfl | exact SlotLe.map rfl | exact SlotLe.iter rfl rfl (.inl rfl) | exact SlotLe.iter rfl rfl (.inr rfl) | refine SlotLe.fix ?_ | refine SlotLe.dyn ?_) <;> ((repeat' first | exact LeL.nil | exact Le.refl _ | refine LeL.cons ?_ ?_ | exact Le.ic rfl | exact Le.bc rfl | exact Le.i rfl | exact Le.b rfl | exact Le.sl rfl | exact Le.mp rfl | exact Le.csl rfl | exact Le.cslsl rfl | exact Le.nils rfl (fun _ => ⟨trivial, trivial⟩) | refine Le.lst rfl (fun _ _ => rfl) (fun _ => ⟨trivial, trivial⟩) ?_ | refine Le.lst rfl (fun _ _ => rfl) (fun _ => ⟨fun _ => ⟨trivial, trivial⟩, trivial⟩) ?_ | exact Le.nils rfl (fun _ => ⟨fun _ => ⟨trivial, trivial⟩, trivial⟩) | exact Le.nils rfl (fun x => (cCm_ok x).1) | refine Le.lst rfl (fun _ _ => rfl) (fun x => (cCm_ok x).1) ?_ | refine Le.agg ?_ | refine Le.tup ?_ | refine Le.fn ?_ ?_ | refine Le.spt ?_ | exact Le.any _))) <;> exact e.symm, ⟨by show i + 1 ≤ x.length ∧ x.length - (i + 1) < x.length - i; omega⟩⟩

      · have hss := setM_nfls h4.out
        have hs : (!parsN x x.length va.id) = false := by rw [hss]; rfl
        have e := col_no hva (s := (fun j => !parsN x x.length j)) hs
        cbv
        exact ⟨i + 1, by ((try cbv) <;> (repeat' (first | with_reducible exact trivial | with_reducible refine And.intro ?_ ?_)) <;> (try first | exact SlotLe.refl _ | exact SlotLe.dyn rfl | exact SlotLe.map rfl | exact SlotLe.iter rfl rfl (.inl rfl) | exact SlotLe.iter rfl rfl (.inr rfl) | refine SlotLe.fix ?_ | refine SlotLe.dyn ?_) <;> ((repeat' first | exact LeL.nil | exact Le.refl _ | refine LeL.cons ?_ ?_ | exact Le.ic rfl | exact Le.bc rfl | exact Le.i rfl | exact Le.b rfl | exact Le.sl rfl | exact Le.mp rfl | exact Le.csl rfl | exact Le.cslsl rfl | exact Le.nils rfl (fun _ => ⟨trivial, trivial⟩) | refine Le.lst rfl (fun _ _ => rfl) (fun _ => ⟨trivial, trivial⟩) ?_ | refine Le.lst rfl (fun _ _ => rfl) (fun _ => ⟨fun _ => ⟨trivial, trivial⟩, trivial⟩) ?_ | exact Le.nils rfl (fun _ => ⟨fun _ => ⟨trivial, trivial⟩, trivial⟩) | exact Le.nils rfl (fun x => (cCm_ok x).1) | refine Le.lst rfl (fun _ _ => rfl) (fun x => (cCm_ok x).1) ?_ | refine Le.agg ?_ | refine Le.tup ?_ | refine Le.fn ?_ ?_ | refine Le.spt ?_ | exact Le.any _))) <;> (refine .i ?_; show IntKind.i64.wrap ((i : Int) + 1) = ((i + 1 : Nat) : Int); rw [w64 (by omega) (by omega)]; rfl), by ((try cbv) <;> (repeat' (first | with_reducible exact trivial | with_reducible refine And.intro ?_ ?_)) <;> (try first | exact SlotLe.refl _ | exact SlotLe.dyn rfl | exact SlotLe.map rfl | exact SlotLe.iter rfl rfl (.inl rfl) | exact SlotLe.iter rfl rfl (.inr rfl) | refine SlotLe.fix ?_ | refine SlotLe.dyn ?_) <;> ((repeat' first | exact LeL.nil | exact Le.refl _ | refine LeL.cons ?_ ?_ | exact Le.ic rfl | exact Le.bc rfl | exact Le.i rfl | exact Le.b rfl | exact Le.sl rfl | exact Le.mp rfl | exact Le.csl rfl | exact Le.cslsl rfl | exact Le.nils rfl (fun _ => ⟨trivial, trivial⟩) | refine Le.lst rfl (fun _ _ => rfl) (fun _ => ⟨trivial, trivial⟩) ?_ | refine Le.lst rfl (fun _ _ => rfl) (fun _ => ⟨fun _ => ⟨trivial, trivial⟩, trivial⟩) ?_ | exact Le.nils rfl (fun _ => ⟨fun _ => ⟨trivial, trivial⟩, trivial⟩) | exact Le.nils rfl (fun x => (cCm_ok x).1) | refine Le.lst rfl (fun _ _ => rfl) (fun x => (cCm_ok x).1) ?_ | refine Le.agg ?_ | refine Le.tup ?_ | refine Le.fn ?_ ?_ | refine Le.spt ?_ | exact Le.any _))) <;> exact e.symm, ⟨by show i + 1 ≤ x.length ∧ x.length - (i + 1) < x.length - i; omega⟩⟩
    · have h2 := h2.out
      have hlt : ¬ i < x.length := by simp [ltB] at h2; ((try simp only [Go.Vc.natc] at *); omega)
      have e : (ids x).take i = ids x := List.take_of_length_le (by simp [ids]; omega)
      cbv
      exact ⟨.sl (by show _ = headsS x; rw [e]; rfl)⟩

end Go.Proofs.Hist
