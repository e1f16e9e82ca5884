/-
  A packet that arrives twice: the walk.
-/
import Derived.Test.YtcejljfammcflaaTranT
set_option linter.unusedVariables false
set_option linter.unusedSimpArgs false
set_option maxRecDepth 10000
set_option maxHeartbeats 1000000
namespace Go.Proofs.Tran
open Go Go.Vc

theorem recA_base (l : Lk) (p : Pk) : ¬ (recA l p).base < p.ack := by
  unfold recA
  split
  · simp
  · assumption
theorem recv_recv (l : Lk) (p : Pk) : recv (recv l p) p = recv l p := by
  have hb := recA_base l p
  have hg := recA_got l p
  by_cases h : p.seq = l.got ∧ l.ins.length < 64 ∧ l.got < 1000000000
  · rw [recv_yes rfl h]
    exact recv_no (recA_no hb) (fun e => by have := e.1; simp only at this; omega)
  · rw [recv_no rfl h]
    exact recv_no (recA_no hb) (by rw [hg.1, hg.2]; exact h)
theorem recv_old {l : Lk} {p : Pk} (hs : p.seq < l.got) (ha : p.ack ≤ l.base) : recv l p = l :=
  recv_no (recA_no (by omega)) (fun e => by have := e.1; omega)
theorem Sys.acc_recv {n : Nat} {x y : Int} {a b : Lk} {s t g h : List (List Int)} {P : List Fl} (H : Sys n x y a b s t g h P) {p : Pk} (hp : PkOk b a t p) : AccOk (Tran.recv a p) p :=
  (H.recv hp).acc (hp.b_key (recv_did (H.acc hp)).k)

def ideS : Vc.Spec where
  α := Scr
  args y := [.i .u64 (fun _ => y.k), .sl 3 cAT (fun _ => y.l)]
  pre y := y.Ok
  res y := .bc true
theorem Ide_ok : SpecOk (PP ()) 7 ideS := by
  refine spec_of_vc (lv := 2) ctx21_ok ctx21_inl (fnOk_of Try.func7 (by kernel_rfl)) (by kernel_rfl) (fun a => ⟨trivial, fun y => (cAT_ok y).1, trivial⟩) (fun a => trivial) ?_
  intro x hx
  have hx : x.Ok := hx
  have hu := hx.1
  have hr := hx.2
  refine ⟨?_⟩
  cbv
  refine ⟨(), ⟨by ((repeat' first | exact LeL.nil | exact Le.refl _ | refine LeL.cons ?_ ?_ | exact Le.ic rfl | exact Le.bc rfl | exact Le.i rfl | exact Le.b rfl | exact Le.sl rfl | exact Le.nils rfl (fun _ => ⟨trivial, trivial⟩) | refine Le.lst rfl (fun _ _ => rfl) (fun _ => ⟨trivial, trivial⟩) ?_ | refine Le.lst rfl (fun _ _ => rfl) (fun _ => ⟨fun _ => ⟨trivial, trivial⟩, trivial⟩) ?_ | exact Le.nils rfl (fun _ => ⟨fun _ => ⟨trivial, trivial⟩, trivial⟩) | refine Le.agg ?_ | refine Le.tup ?_ | exact Le.any _)), trivial⟩, ?_⟩
  cbv
  refine ⟨fun h => ?_, fun h => ?_⟩
  · cbv
    exact ⟨.refl _⟩
  have h : ltB 60 (x.l.length : Int) = false := h.out
  have hl : x.l.length ≤ 60 := by simp [ltB] at h; omega
  cbv
  refine ⟨x.k, ⟨by ((repeat' first | exact LeL.nil | exact Le.refl _ | refine LeL.cons ?_ ?_ | exact Le.ic rfl | exact Le.bc rfl | exact Le.i rfl | exact Le.b rfl | exact Le.sl rfl | exact Le.nils rfl (fun _ => ⟨trivial, trivial⟩) | refine Le.lst rfl (fun _ _ => rfl) (fun _ => ⟨trivial, trivial⟩) ?_ | refine Le.lst rfl (fun _ _ => rfl) (fun _ => ⟨fun _ => ⟨trivial, trivial⟩, trivial⟩) ?_ | exact Le.nils rfl (fun _ => ⟨fun _ => ⟨trivial, trivial⟩, trivial⟩) | refine Le.agg ?_ | refine Le.tup ?_ | exact Le.any _)), trivial⟩, ?_⟩
  cbv
  refine Sat.loop ctx21_ok ctx21_inl (lv := 2) (by kernel_rfl) 1 [] (fun z : Nat × Wd => ⟨[.i .u64 (fun _ => x.k), .sl 3 cAT (fun _ => x.l), .any, .any, .bc false, .bc true, .ptr 0 0, .i .i64 (fun _ => (z.1 : Int))] ++ anys 87, [.fix 60 (Wd.cells fun _ => z.2)]⟩)
    (fun z => z.1 ≤ x.l.length ∧ z.2.Inv z.1) (fun z => x.l.length - z.1) (0, wd0 x.k) (by ((try cbv) <;> (repeat' (first | with_reducible exact trivial | with_reducible refine And.intro ?_ ?_)) <;> (try first | exact SlotLe.refl _ | exact SlotLe.dyn rfl | refine SlotLe.fix ?_ | refine SlotLe.dyn ?_) <;> ((repeat' first | exact LeL.nil | exact Le.refl _ | refine LeL.cons ?_ ?_ | exact Le.ic rfl | exact Le.bc rfl | exact Le.i rfl | exact Le.b rfl | exact Le.sl rfl | exact Le.nils rfl (fun _ => ⟨trivial, trivial⟩) | refine Le.lst rfl (fun _ _ => rfl) (fun _ => ⟨trivial, trivial⟩) ?_ | refine Le.lst rfl (fun _ _ => rfl) (fun _ => ⟨fun _ => ⟨trivial, trivial⟩, trivial⟩) ?_ | exact Le.nils rfl (fun _ => ⟨fun _ => ⟨trivial, trivial⟩, trivial⟩) | refine Le.agg ?_ | refine Le.tup ?_ | exact Le.any _)))) (by ((try cbv) <;> (repeat' (first | with_reducible exact trivial | with_reducible refine And.intro ?_ ?_)) <;> (try first | exact SlotLe.refl _ | exact SlotLe.dyn rfl | refine SlotLe.fix ?_ | refine SlotLe.dyn ?_) <;> ((repeat' first | exact LeL.nil | exact Le.refl _ | refine LeL.cons ?_ ?_ | exact Le.ic rfl | exact Le.bc rfl | exact Le.i rfl | exact Le.b rfl | exact Le.sl rfl | exact Le.nils rfl (fun _ => ⟨trivial, trivial⟩) | refine Le.lst rfl (fun _ _ => rfl) (fun _ => ⟨trivial, trivial⟩) ?_ | refine Le.lst rfl (fun _ _ => rfl) (fun _ => ⟨fun _ => ⟨trivial, trivial⟩, trivial⟩) ?_ | exact Le.nils rfl (fun _ => ⟨fun _ => ⟨trivial, trivial⟩, trivial⟩) | refine Le.agg ?_ | refine Le.tup ?_ | exact Le.any _)))) ⟨by omega, wd0_inv hu⟩ ?_
  rintro z ⟨hi, I⟩
  cbv
  refine ⟨fun h2 => ?_, fun h2 => ?_⟩
  · have h2 := h2.out
    have hlt : z.1 < x.l.length := by simp [ltB] at h2; ((try simp only [Go.Vc.natc] at *); omega)
    obtain ⟨t, ht⟩ : ∃ t, x.l[z.1]? = some t := ⟨_, List.getElem?_eq_getElem hlt⟩
    have hrt := hr t (List.mem_of_getElem? ht)
    have I' := step_inv (a := AT.ac t) I
    cbv
    refine ⟨t, ⟨Int.natCast_nonneg _, ht⟩, ?_⟩
    cbv
    refine ⟨⟨z.2, AT.ac t⟩, ⟨by ((repeat' first | exact LeL.nil | exact Le.refl _ | refine LeL.cons ?_ ?_ | exact Le.ic rfl | exact Le.bc rfl | exact Le.i rfl | exact Le.b rfl | exact Le.sl rfl | exact Le.nils rfl (fun _ => ⟨trivial, trivial⟩) | refine Le.lst rfl (fun _ _ => rfl) (fun _ => ⟨trivial, trivial⟩) ?_ | refine Le.lst rfl (fun _ _ => rfl) (fun _ => ⟨fun _ => ⟨trivial, trivial⟩, trivial⟩) ?_ | exact Le.nils rfl (fun _ => ⟨fun _ => ⟨trivial, trivial⟩, trivial⟩) | refine Le.agg ?_ | refine Le.tup ?_ | exact Le.any _)), ⟨z.1, by omega, I⟩, hrt.1, hrt.2⟩, ?_⟩
    cbv
    refine ⟨(z.1 + 1, stepM (AT.ac t) z.2), by ((try cbv) <;> (repeat' (first | with_reducible exact trivial | with_reducible refine And.intro ?_ ?_)) <;> (try first | exact SlotLe.refl _ | exact SlotLe.dyn rfl | refine SlotLe.fix ?_ | refine SlotLe.dyn ?_) <;> ((repeat' first | exact LeL.nil | exact Le.refl _ | refine LeL.cons ?_ ?_ | exact Le.ic rfl | exact Le.bc rfl | exact Le.i rfl | exact Le.b rfl | exact Le.sl rfl | exact Le.nils rfl (fun _ => ⟨trivial, trivial⟩) | refine Le.lst rfl (fun _ _ => rfl) (fun _ => ⟨trivial, trivial⟩) ?_ | refine Le.lst rfl (fun _ _ => rfl) (fun _ => ⟨fun _ => ⟨trivial, trivial⟩, trivial⟩) ?_ | exact Le.nils rfl (fun _ => ⟨fun _ => ⟨trivial, trivial⟩, trivial⟩) | refine Le.agg ?_ | refine Le.tup ?_ | exact Le.any _))) <;> (refine .i ?_; show IntKind.i64.wrap ((z.1 : Int) + 1) = ((z.1 + 1 : Nat) : Int); rw [w64 (by omega) (by omega)]; rfl), by ((try cbv) <;> (repeat' (first | with_reducible exact trivial | with_reducible refine And.intro ?_ ?_)) <;> (try first | exact SlotLe.refl _ | exact SlotLe.dyn rfl | refine SlotLe.fix ?_ | refine SlotLe.dyn ?_) <;> ((repeat' first | exact LeL.nil | exact Le.refl _ | refine LeL.cons ?_ ?_ | exact Le.ic rfl | exact Le.bc rfl | exact Le.i rfl | exact Le.b rfl | exact Le.sl rfl | exact Le.nils rfl (fun _ => ⟨trivial, trivial⟩) | refine Le.lst rfl (fun _ _ => rfl) (fun _ => ⟨trivial, trivial⟩) ?_ | refine Le.lst rfl (fun _ _ => rfl) (fun _ => ⟨fun _ => ⟨trivial, trivial⟩, trivial⟩) ?_ | exact Le.nils rfl (fun _ => ⟨fun _ => ⟨trivial, trivial⟩, trivial⟩) | refine Le.agg ?_ | refine Le.tup ?_ | exact Le.any _))), ⟨⟨by omega, I'⟩, by show x.l.length - (z.1 + 1) < x.l.length - z.1; omega⟩⟩
  have hP := I.pn
  cbv
  refine Sat.loop ctx21_ok ctx21_inl (lv := 2) (by kernel_rfl) 1 [] (fun i : Nat => ⟨[.i .u64 (fun _ => x.k), .sl 3 cAT (fun _ => x.l), .any, .any, .bc false, .bc true, .ptr 0 0, .any, .i .i64 (fun _ => (i : Int))] ++ anys 86, [.fix 60 (Wd.cells fun _ => z.2)]⟩)
    (fun i => i ≤ z.2.pool.length) (fun i => z.2.pool.length - i) 0 (by ((try cbv) <;> (repeat' (first | with_reducible exact trivial | with_reducible refine And.intro ?_ ?_)) <;> (try first | exact SlotLe.refl _ | exact SlotLe.dyn rfl | refine SlotLe.fix ?_ | refine SlotLe.dyn ?_) <;> ((repeat' first | exact LeL.nil | exact Le.refl _ | refine LeL.cons ?_ ?_ | exact Le.ic rfl | exact Le.bc rfl | exact Le.i rfl | exact Le.b rfl | exact Le.sl rfl | exact Le.nils rfl (fun _ => ⟨trivial, trivial⟩) | refine Le.lst rfl (fun _ _ => rfl) (fun _ => ⟨trivial, trivial⟩) ?_ | refine Le.lst rfl (fun _ _ => rfl) (fun _ => ⟨fun _ => ⟨trivial, trivial⟩, trivial⟩) ?_ | exact Le.nils rfl (fun _ => ⟨fun _ => ⟨trivial, trivial⟩, trivial⟩) | refine Le.agg ?_ | refine Le.tup ?_ | exact Le.any _)))) (by ((try cbv) <;> (repeat' (first | with_reducible exact trivial | with_reducible refine And.intro ?_ ?_)) <;> (try first | exact SlotLe.refl _ | exact SlotLe.dyn rfl | refine SlotLe.fix ?_ | refine SlotLe.dyn ?_) <;> ((repeat' first | exact LeL.nil | exact Le.refl _ | refine LeL.cons ?_ ?_ | exact Le.ic rfl | exact Le.bc rfl | exact Le.i rfl | exact Le.b rfl | exact Le.sl rfl | exact Le.nils rfl (fun _ => ⟨trivial, trivial⟩) | refine Le.lst rfl (fun _ _ => rfl) (fun _ => ⟨trivial, trivial⟩) ?_ | refine Le.lst rfl (fun _ _ => rfl) (fun _ => ⟨fun _ => ⟨trivial, trivial⟩, trivial⟩) ?_ | exact Le.nils rfl (fun _ => ⟨fun _ => ⟨trivial, trivial⟩, trivial⟩) | refine Le.agg ?_ | refine Le.tup ?_ | exact Le.any _)))) (by omega) ?_
  intro i hi2
  cbv
  refine ⟨fun h2 => ?_, fun h2 => ?_⟩
  rotate_left
  · cbv
    exact ⟨.refl _⟩
  have h2 := h2.out
  have hlt : i < z.2.pool.length := by simp [ltB] at h2; ((try simp only [Go.Vc.natc] at *); omega)
  obtain ⟨f, hf⟩ : ∃ f, z.2.pool[i]? = some f := ⟨_, List.getElem?_eq_getElem hlt⟩
  cbv
  refine ⟨f, ⟨Int.natCast_nonneg _, hf⟩, ?_⟩
  cbv
  rcases I.pool f (List.mem_of_getElem? hf) with q | q
  · have hpk := q.2
    have hto := q.1
    have hd := hpk.data I.da.sm
    have hpa : f.p.ack ≤ 9223372036854775807 := by have := hpk.a1; have := I.oa.g1; omega
    have hok : LP.Ok ⟨z.2.l1, f.p⟩ := I.ob.lp (by omega) hpa
    have hac : accB z.2.l1 f.p = true := accB_of (I.symm.acc hpk)
    have hg := rec_good hac
    have hac2 : accB (recL z.2.l1 f.p) f.p = true := by rw [hg.1]; exact accB_of (I.symm.acc_recv hpk)
    have hg2 := rec_good hac2
    have hsame : recL (recL z.2.l1 f.p) f.p = recL z.2.l1 f.p := by rw [hg2.1, hg.1]; exact recv_recv _ _
    have hrk := recL_ok I.ob f.p
    obtain ⟨r, hrr⟩ : ∃ r, r = recL z.2.l1 f.p := ⟨_, rfl⟩
    obtain ⟨e, hee⟩ : ∃ e, e = recE z.2.l1 f.p := ⟨_, rfl⟩
    rw [← hrr] at hsame hg2 hrk
    obtain ⟨r2, hrr2⟩ : ∃ r2, r2 = recL r f.p := ⟨_, rfl⟩
    obtain ⟨e2, hee2⟩ : ∃ e, e = recE r f.p := ⟨_, rfl⟩
    have he0 : e = 0 := by rw [hee]; exact hg.2
    have he2 : e2 = 0 := by rw [hee2]; exact hg2.2
    have hr2 : r2 = r := by rw [hrr2]; exact hsame
    have hok2 : LP.Ok ⟨r, f.p⟩ := hrk.lp (by omega) hpa
    have hold : f.p.seq < z.2.l1.got → f.p.ack ≤ z.2.l1.base → r = z.2.l1 := fun a b => by rw [hrr, hg.1]; exact recv_old a b
    refine ⟨1, ⟨hto, by decide⟩, ?_⟩
    cbv
    refine ⟨⟨z.2.l1, f.p⟩, ⟨by ((repeat' first | exact LeL.nil | exact Le.refl _ | refine LeL.cons ?_ ?_ | exact Le.ic rfl | exact Le.bc rfl | exact Le.i rfl | exact Le.b rfl | exact Le.sl rfl | exact Le.nils rfl (fun _ => ⟨trivial, trivial⟩) | refine Le.lst rfl (fun _ _ => rfl) (fun _ => ⟨trivial, trivial⟩) ?_ | refine Le.lst rfl (fun _ _ => rfl) (fun _ => ⟨fun _ => ⟨trivial, trivial⟩, trivial⟩) ?_ | exact Le.nils rfl (fun _ => ⟨fun _ => ⟨trivial, trivial⟩, trivial⟩) | refine Le.agg ?_ | refine Le.tup ?_ | exact Le.any _)), hok⟩, ?_⟩
    cbv
    refine ⟨⟨r, f.p⟩, ⟨by rw [hrr]; ((repeat' first | exact LeL.nil | exact Le.refl _ | refine LeL.cons ?_ ?_ | exact Le.ic rfl | exact Le.bc rfl | exact Le.i rfl | exact Le.b rfl | exact Le.sl rfl | exact Le.nils rfl (fun _ => ⟨trivial, trivial⟩) | refine Le.lst rfl (fun _ _ => rfl) (fun _ => ⟨trivial, trivial⟩) ?_ | refine Le.lst rfl (fun _ _ => rfl) (fun _ => ⟨fun _ => ⟨trivial, trivial⟩, trivial⟩) ?_ | exact Le.nils rfl (fun _ => ⟨fun _ => ⟨trivial, trivial⟩, trivial⟩) | refine Le.agg ?_ | refine Le.tup ?_ | exact Le.any _)), hok2⟩, ?_⟩
    cbv
    refine ⟨fun h6 => ?_, fun _ => ?_⟩
    · have h6 : (!eqB (recE z.2.l1 f.p) 0) = true := h6.out
      rw [← hee, he0] at h6; simp [eqB] at h6
    cbv
    refine ⟨⟨r, e, r2, e2⟩, ⟨by rw [hrr2, hee2, hee, hrr]; ((repeat' first | exact LeL.nil | exact Le.refl _ | refine LeL.cons ?_ ?_ | exact Le.ic rfl | exact Le.bc rfl | exact Le.i rfl | exact Le.b rfl | exact Le.sl rfl | exact Le.nils rfl (fun _ => ⟨trivial, trivial⟩) | refine Le.lst rfl (fun _ _ => rfl) (fun _ => ⟨trivial, trivial⟩) ?_ | refine Le.lst rfl (fun _ _ => rfl) (fun _ => ⟨fun _ => ⟨trivial, trivial⟩, trivial⟩) ?_ | exact Le.nils rfl (fun _ => ⟨fun _ => ⟨trivial, trivial⟩, trivial⟩) | refine Le.agg ?_ | refine Le.tup ?_ | exact Le.any _)), hrk.sm.1.bs, hrk.sm.2.bs⟩, ?_⟩
    cbv
    refine ⟨fun h6 => ?_, fun _ => ?_⟩
    · have h6 : (!(eqB e e2 && r.same r2)) = true := h6.out
      rw [he0, he2, hr2, Lk.same_refl] at h6; simp [eqB] at h6
    cbv
    refine ⟨fun h6 => ?_, fun _ => ?_⟩
    · have hs : f.p.seq < z.2.l1.got := by have h6 : ltB f.p.seq z.2.l1.got = true := h6.out; simpa [ltB] using h6
      cbv
      refine ⟨fun h6 => ?_, fun _ => ?_⟩
      · have ha : f.p.ack ≤ z.2.l1.base := by have h6 : leB f.p.ack z.2.l1.base = true := h6.out; simpa [leB] using h6
        have hrl := hold hs ha
        cbv
        refine ⟨⟨r, z.2.l1⟩, ⟨by rw [hrr]; ((repeat' first | exact LeL.nil | exact Le.refl _ | refine LeL.cons ?_ ?_ | exact Le.ic rfl | exact Le.bc rfl | exact Le.i rfl | exact Le.b rfl | exact Le.sl rfl | exact Le.nils rfl (fun _ => ⟨trivial, trivial⟩) | refine Le.lst rfl (fun _ _ => rfl) (fun _ => ⟨trivial, trivial⟩) ?_ | refine Le.lst rfl (fun _ _ => rfl) (fun _ => ⟨fun _ => ⟨trivial, trivial⟩, trivial⟩) ?_ | exact Le.nils rfl (fun _ => ⟨fun _ => ⟨trivial, trivial⟩, trivial⟩) | refine Le.agg ?_ | refine Le.tup ?_ | exact Le.any _)), hrk.sm.1.bs, hrk.sm.2.bs⟩, ?_⟩
        cbv
        refine ⟨fun h6 => ?_, fun _ => ?_⟩
        · have h6 : (!(r.same z.2.l1)) = true := h6.out
          rw [hrl, Lk.same_refl] at h6; cases h6
        cbv
        refine ⟨i + 1, by ((try cbv) <;> (repeat' (first | with_reducible exact trivial | with_reducible refine And.intro ?_ ?_)) <;> (try first | exact SlotLe.refl _ | exact SlotLe.dyn rfl | refine SlotLe.fix ?_ | refine SlotLe.dyn ?_) <;> ((repeat' first | exact LeL.nil | exact Le.refl _ | refine LeL.cons ?_ ?_ | exact Le.ic rfl | exact Le.bc rfl | exact Le.i rfl | exact Le.b rfl | exact Le.sl rfl | exact Le.nils rfl (fun _ => ⟨trivial, trivial⟩) | refine Le.lst rfl (fun _ _ => rfl) (fun _ => ⟨trivial, trivial⟩) ?_ | refine Le.lst rfl (fun _ _ => rfl) (fun _ => ⟨fun _ => ⟨trivial, trivial⟩, trivial⟩) ?_ | exact Le.nils rfl (fun _ => ⟨fun _ => ⟨trivial, trivial⟩, trivial⟩) | refine Le.agg ?_ | refine Le.tup ?_ | exact Le.any _))) <;> (refine .i ?_; show IntKind.i64.wrap ((i : Int) + 1) = ((i + 1 : Nat) : Int); rw [w64 (by omega) (by omega)]; rfl), by ((try cbv) <;> (repeat' (first | with_reducible exact trivial | with_reducible refine And.intro ?_ ?_)) <;> (try first | exact SlotLe.refl _ | exact SlotLe.dyn rfl | refine SlotLe.fix ?_ | refine SlotLe.dyn ?_) <;> ((repeat' first | exact LeL.nil | exact Le.refl _ | refine LeL.cons ?_ ?_ | exact Le.ic rfl | exact Le.bc rfl | exact Le.i rfl | exact Le.b rfl | exact Le.sl rfl | exact Le.nils rfl (fun _ => ⟨trivial, trivial⟩) | refine Le.lst rfl (fun _ _ => rfl) (fun _ => ⟨trivial, trivial⟩) ?_ | refine Le.lst rfl (fun _ _ => rfl) (fun _ => ⟨fun _ => ⟨trivial, trivial⟩, trivial⟩) ?_ | exact Le.nils rfl (fun _ => ⟨fun _ => ⟨trivial, trivial⟩, trivial⟩) | refine Le.agg ?_ | refine Le.tup ?_ | exact Le.any _))), ⟨by omega, by show z.2.pool.length - (i + 1) < z.2.pool.length - i; omega⟩⟩
      cbv
      refine ⟨i + 1, by ((try cbv) <;> (repeat' (first | with_reducible exact trivial | with_reducible refine And.intro ?_ ?_)) <;> (try first | exact SlotLe.refl _ | exact SlotLe.dyn rfl | refine SlotLe.fix ?_ | refine SlotLe.dyn ?_) <;> ((repeat' first | exact LeL.nil | exact Le.refl _ | refine LeL.cons ?_ ?_ | exact Le.ic rfl | exact Le.bc rfl | exact Le.i rfl | exact Le.b rfl | exact Le.sl rfl | exact Le.nils rfl (fun _ => ⟨trivial, trivial⟩) | refine Le.lst rfl (fun _ _ => rfl) (fun _ => ⟨trivial, trivial⟩) ?_ | refine Le.lst rfl (fun _ _ => rfl) (fun _ => ⟨fun _ => ⟨trivial, trivial⟩, trivial⟩) ?_ | exact Le.nils rfl (fun _ => ⟨fun _ => ⟨trivial, trivial⟩, trivial⟩) | refine Le.agg ?_ | refine Le.tup ?_ | exact Le.any _))) <;> (refine .i ?_; show IntKind.i64.wrap ((i : Int) + 1) = ((i + 1 : Nat) : Int); rw [w64 (by omega) (by omega)]; rfl), by ((try cbv) <;> (repeat' (first | with_reducible exact trivial | with_reducible refine And.intro ?_ ?_)) <;> (try first | exact SlotLe.refl _ | exact SlotLe.dyn rfl | refine SlotLe.fix ?_ | refine SlotLe.dyn ?_) <;> ((repeat' first | exact LeL.nil | exact Le.refl _ | refine LeL.cons ?_ ?_ | exact Le.ic rfl | exact Le.bc rfl | exact Le.i rfl | exact Le.b rfl | exact Le.sl rfl | exact Le.nils rfl (fun _ => ⟨trivial, trivial⟩) | refine Le.lst rfl (fun _ _ => rfl) (fun _ => ⟨trivial, trivial⟩) ?_ | refine Le.lst rfl (fun _ _ => rfl) (fun _ => ⟨fun _ => ⟨trivial, trivial⟩, trivial⟩) ?_ | exact Le.nils rfl (fun _ => ⟨fun _ => ⟨trivial, trivial⟩, trivial⟩) | refine Le.agg ?_ | refine Le.tup ?_ | exact Le.any _))), ⟨by omega, by show z.2.pool.length - (i + 1) < z.2.pool.length - i; omega⟩⟩
    cbv
    refine ⟨i + 1, by ((try cbv) <;> (repeat' (first | with_reducible exact trivial | with_reducible refine And.intro ?_ ?_)) <;> (try first | exact SlotLe.refl _ | exact SlotLe.dyn rfl | refine SlotLe.fix ?_ | refine SlotLe.dyn ?_) <;> ((repeat' first | exact LeL.nil | exact Le.refl _ | refine LeL.cons ?_ ?_ | exact Le.ic rfl | exact Le.bc rfl | exact Le.i rfl | exact Le.b rfl | exact Le.sl rfl | exact Le.nils rfl (fun _ => ⟨trivial, trivial⟩) | refine Le.lst rfl (fun _ _ => rfl) (fun _ => ⟨trivial, trivial⟩) ?_ | refine Le.lst rfl (fun _ _ => rfl) (fun _ => ⟨fun _ => ⟨trivial, trivial⟩, trivial⟩) ?_ | exact Le.nils rfl (fun _ => ⟨fun _ => ⟨trivial, trivial⟩, trivial⟩) | refine Le.agg ?_ | refine Le.tup ?_ | exact Le.any _))) <;> (refine .i ?_; show IntKind.i64.wrap ((i : Int) + 1) = ((i + 1 : Nat) : Int); rw [w64 (by omega) (by omega)]; rfl), by ((try cbv) <;> (repeat' (first | with_reducible exact trivial | with_reducible refine And.intro ?_ ?_)) <;> (try first | exact SlotLe.refl _ | exact SlotLe.dyn rfl | refine SlotLe.fix ?_ | refine SlotLe.dyn ?_) <;> ((repeat' first | exact LeL.nil | exact Le.refl _ | refine LeL.cons ?_ ?_ | exact Le.ic rfl | exact Le.bc rfl | exact Le.i rfl | exact Le.b rfl | exact Le.sl rfl | exact Le.nils rfl (fun _ => ⟨trivial, trivial⟩) | refine Le.lst rfl (fun _ _ => rfl) (fun _ => ⟨trivial, trivial⟩) ?_ | refine Le.lst rfl (fun _ _ => rfl) (fun _ => ⟨fun _ => ⟨trivial, trivial⟩, trivial⟩) ?_ | exact Le.nils rfl (fun _ => ⟨fun _ => ⟨trivial, trivial⟩, trivial⟩) | refine Le.agg ?_ | refine Le.tup ?_ | exact Le.any _))), ⟨by omega, by show z.2.pool.length - (i + 1) < z.2.pool.length - i; omega⟩⟩
  · have hpk := q.2
    have hto := q.1
    have hd := hpk.data I.db.sm
    have hpa : f.p.ack ≤ 9223372036854775807 := by have := hpk.a1; have := I.ob.g1; omega
    have hok : LP.Ok ⟨z.2.l0, f.p⟩ := I.oa.lp (by omega) hpa
    have hac : accB z.2.l0 f.p = true := accB_of (I.acc hpk)
    have hg := rec_good hac
    have hac2 : accB (recL z.2.l0 f.p) f.p = true := by rw [hg.1]; exact accB_of (I.acc_recv hpk)
    have hg2 := rec_good hac2
    have hsame : recL (recL z.2.l0 f.p) f.p = recL z.2.l0 f.p := by rw [hg2.1, hg.1]; exact recv_recv _ _
    have hrk := recL_ok I.oa f.p
    obtain ⟨r, hrr⟩ : ∃ r, r = recL z.2.l0 f.p := ⟨_, rfl⟩
    obtain ⟨e, hee⟩ : ∃ e, e = recE z.2.l0 f.p := ⟨_, rfl⟩
    rw [← hrr] at hsame hg2 hrk
    obtain ⟨r2, hrr2⟩ : ∃ r2, r2 = recL r f.p := ⟨_, rfl⟩
    obtain ⟨e2, hee2⟩ : ∃ e, e = recE r f.p := ⟨_, rfl⟩
    have he0 : e = 0 := by rw [hee]; exact hg.2
    have he2 : e2 = 0 := by rw [hee2]; exact hg2.2
    have hr2 : r2 = r := by rw [hrr2]; exact hsame
    have hok2 : LP.Ok ⟨r, f.p⟩ := hrk.lp (by omega) hpa
    have hold : f.p.seq < z.2.l0.got → f.p.ack ≤ z.2.l0.base → r = z.2.l0 := fun a b => by rw [hrr, hg.1]; exact recv_old a b
    refine ⟨0, ⟨hto, by decide⟩, ?_⟩
    cbv
    refine ⟨⟨z.2.l0, f.p⟩, ⟨by ((repeat' first | exact LeL.nil | exact Le.refl _ | refine LeL.cons ?_ ?_ | exact Le.ic rfl | exact Le.bc rfl | exact Le.i rfl | exact Le.b rfl | exact Le.sl rfl | exact Le.nils rfl (fun _ => ⟨trivial, trivial⟩) | refine Le.lst rfl (fun _ _ => rfl) (fun _ => ⟨trivial, trivial⟩) ?_ | refine Le.lst rfl (fun _ _ => rfl) (fun _ => ⟨fun _ => ⟨trivial, trivial⟩, trivial⟩) ?_ | exact Le.nils rfl (fun _ => ⟨fun _ => ⟨trivial, trivial⟩, trivial⟩) | refine Le.agg ?_ | refine Le.tup ?_ | exact Le.any _)), hok⟩, ?_⟩
    cbv
    refine ⟨⟨r, f.p⟩, ⟨by rw [hrr]; ((repeat' first | exact LeL.nil | exact Le.refl _ | refine LeL.cons ?_ ?_ | exact Le.ic rfl | exact Le.bc rfl | exact Le.i rfl | exact Le.b rfl | exact Le.sl rfl | exact Le.nils rfl (fun _ => ⟨trivial, trivial⟩) | refine Le.lst rfl (fun _ _ => rfl) (fun _ => ⟨trivial, trivial⟩) ?_ | refine Le.lst rfl (fun _ _ => rfl) (fun _ => ⟨fun _ => ⟨trivial, trivial⟩, trivial⟩) ?_ | exact Le.nils rfl (fun _ => ⟨fun _ => ⟨trivial, trivial⟩, trivial⟩) | refine Le.agg ?_ | refine Le.tup ?_ | exact Le.any _)), hok2⟩, ?_⟩
    cbv
    refine ⟨fun h6 => ?_, fun _ => ?_⟩
    · have h6 : (!eqB (recE z.2.l0 f.p) 0) = true := h6.out
      rw [← hee, he0] at h6; simp [eqB] at h6
    cbv
    refine ⟨⟨r, e, r2, e2⟩, ⟨by rw [hrr2, hee2, hee, hrr]; ((repeat' first | exact LeL.nil | exact Le.refl _ | refine LeL.cons ?_ ?_ | exact Le.ic rfl | exact Le.bc rfl | exact Le.i rfl | exact Le.b rfl | exact Le.sl rfl | exact Le.nils rfl (fun _ => ⟨trivial, trivial⟩) | refine Le.lst rfl (fun _ _ => rfl) (fun _ => ⟨trivial, trivial⟩) ?_ | refine Le.lst rfl (fun _ _ => rfl) (fun _ => ⟨fun _ => ⟨trivial, trivial⟩, trivial⟩) ?_ | exact Le.nils rfl (fun _ => ⟨fun _ => ⟨trivial, trivial⟩, trivial⟩) | refine Le.agg ?_ | refine Le.tup ?_ | exact Le.any _)), hrk.sm.1.bs, hrk.sm.2.bs⟩, ?_⟩
    cbv
    refine ⟨fun h6 => ?_, fun _ => ?_⟩
    · have h6 : (!(eqB e e2 && r.same r2)) = true := h6.out
      rw [he0, he2, hr2, Lk.same_refl] at h6; simp [eqB] at h6
    cbv
    refine ⟨fun h6 => ?_, fun _ => ?_⟩
    · have hs : f.p.seq < z.2.l0.got := by have h6 : ltB f.p.seq z.2.l0.got = true := h6.out; simpa [ltB] using h6
      cbv
      refine ⟨fun h6 => ?_, fun _ => ?_⟩
      · have ha : f.p.ack ≤ z.2.l0.base := by have h6 : leB f.p.ack z.2.l0.base = true := h6.out; simpa [leB] using h6
        have hrl := hold hs ha
        cbv
        refine ⟨⟨r, z.2.l0⟩, ⟨by rw [hrr]; ((repeat' first | exact LeL.nil | exact Le.refl _ | refine LeL.cons ?_ ?_ | exact Le.ic rfl | exact Le.bc rfl | exact Le.i rfl | exact Le.b rfl | exact Le.sl rfl | exact Le.nils rfl (fun _ => ⟨trivial, trivial⟩) | refine Le.lst rfl (fun _ _ => rfl) (fun _ => ⟨trivial, trivial⟩) ?_ | refine Le.lst rfl (fun _ _ => rfl) (fun _ => ⟨fun _ => ⟨trivial, trivial⟩, trivial⟩) ?_ | exact Le.nils rfl (fun _ => ⟨fun _ => ⟨trivial, trivial⟩, trivial⟩) | refine Le.agg ?_ | refine Le.tup ?_ | exact Le.any _)), hrk.sm.1.bs, hrk.sm.2.bs⟩, ?_⟩
        cbv
        refine ⟨fun h6 => ?_, fun _ => ?_⟩
        · have h6 : (!(r.same z.2.l0)) = true := h6.out
          rw [hrl, Lk.same_refl] at h6; cases h6
        cbv
        refine ⟨i + 1, by ((try cbv) <;> (repeat' (first | with_reducible exact trivial | with_reducible refine And.intro ?_ ?_)) <;> (try first | exact SlotLe.refl _ | exact SlotLe.dyn rfl | refine SlotLe.fix ?_ | refine SlotLe.dyn ?_) <;> ((repeat' first | exact LeL.nil | exact Le.refl _ | refine LeL.cons ?_ ?_ | exact Le.ic rfl | exact Le.bc rfl | exact Le.i rfl | exact Le.b rfl | exact Le.sl rfl | exact Le.nils rfl (fun _ => ⟨trivial, trivial⟩) | refine Le.lst rfl (fun _ _ => rfl) (fun _ => ⟨trivial, trivial⟩) ?_ | refine Le.lst rfl (fun _ _ => rfl) (fun _ => ⟨fun _ => ⟨trivial, trivial⟩, trivial⟩) ?_ | exact Le.nils rfl (fun _ => ⟨fun _ => ⟨trivial, trivial⟩, trivial⟩) | refine Le.agg ?_ | refine Le.tup ?_ | exact Le.any _))) <;> (refine .i ?_; show IntKind.i64.wrap ((i : Int) + 1) = ((i + 1 : Nat) : Int); rw [w64 (by omega) (by omega)]; rfl), by ((try cbv) <;> (repeat' (first | with_reducible exact trivial | with_reducible refine And.intro ?_ ?_)) <;> (try first | exact SlotLe.refl _ | exact SlotLe.dyn rfl | refine SlotLe.fix ?_ | refine SlotLe.dyn ?_) <;> ((repeat' first | exact LeL.nil | exact Le.refl _ | refine LeL.cons ?_ ?_ | exact Le.ic rfl | exact Le.bc rfl | exact Le.i rfl | exact Le.b rfl | exact Le.sl rfl | exact Le.nils rfl (fun _ => ⟨trivial, trivial⟩) | refine Le.lst rfl (fun _ _ => rfl) (fun _ => ⟨trivial, trivial⟩) ?_ | refine Le.lst rfl (fun _ _ => rfl) (fun _ => ⟨fun _ => ⟨trivial, trivial⟩, trivial⟩) ?_ | exact Le.nils rfl (fun _ => ⟨fun _ => ⟨trivial, trivial⟩, trivial⟩) | refine Le.agg ?_ | refine Le.tup ?_ | exact Le.any _))), ⟨by omega, by show z.2.pool.length - (i + 1) < z.2.pool.length - i; omega⟩⟩
      cbv
      refine ⟨i + 1, by ((try cbv) <;> (repeat' (first | with_reducible exact trivial | with_reducible refine And.intro ?_ ?_)) <;> (try first | exact SlotLe.refl _ | exact SlotLe.dyn rfl | refine SlotLe.fix ?_ | refine SlotLe.dyn ?_) <;> ((repeat' first | exact LeL.nil | exact Le.refl _ | refine LeL.cons ?_ ?_ | exact Le.ic rfl | exact Le.bc rfl | exact Le.i rfl | exact Le.b rfl | exact Le.sl rfl | exact Le.nils rfl (fun _ => ⟨trivial, trivial⟩) | refine Le.lst rfl (fun _ _ => rfl) (fun _ => ⟨trivial, trivial⟩) ?_ | refine Le.lst rfl (fun _ _ => rfl) (fun _ => ⟨fun _ => ⟨trivial, trivial⟩, trivial⟩) ?_ | exact Le.nils rfl (fun _ => ⟨fun _ => ⟨trivial, trivial⟩, trivial⟩) | refine Le.agg ?_ | refine Le.tup ?_ | exact Le.any _))) <;> (refine .i ?_; show IntKind.i64.wrap ((i : Int) + 1) = ((i + 1 : Nat) : Int); rw [w64 (by omega) (by omega)]; rfl), by ((try cbv) <;> (repeat' (first | with_reducible exact trivial | with_reducible refine And.intro ?_ ?_)) <;> (try first | exact SlotLe.refl _ | exact SlotLe.dyn rfl | refine SlotLe.fix ?_ | refine SlotLe.dyn ?_) <;> ((repeat' first | exact LeL.nil | exact Le.refl _ | refine LeL.cons ?_ ?_ | exact Le.ic rfl | exact Le.bc rfl | exact Le.i rfl | exact Le.b rfl | exact Le.sl rfl | exact Le.nils rfl (fun _ => ⟨trivial, trivial⟩) | refine Le.lst rfl (fun _ _ => rfl) (fun _ => ⟨trivial, trivial⟩) ?_ | refine Le.lst rfl (fun _ _ => rfl) (fun _ => ⟨fun _ => ⟨trivial, trivial⟩, trivial⟩) ?_ | exact Le.nils rfl (fun _ => ⟨fun _ => ⟨trivial, trivial⟩, trivial⟩) | refine Le.agg ?_ | refine Le.tup ?_ | exact Le.any _))), ⟨by omega, by show z.2.pool.length - (i + 1) < z.2.pool.length - i; omega⟩⟩
    cbv
    refine ⟨i + 1, by ((try cbv) <;> (repeat' (first | with_reducible exact trivial | with_reducible refine And.intro ?_ ?_)) <;> (try first | exact SlotLe.refl _ | exact SlotLe.dyn rfl | refine SlotLe.fix ?_ | refine SlotLe.dyn ?_) <;> ((repeat' first | exact LeL.nil | exact Le.refl _ | refine LeL.cons ?_ ?_ | exact Le.ic rfl | exact Le.bc rfl | exact Le.i rfl | exact Le.b rfl | exact Le.sl rfl | exact Le.nils rfl (fun _ => ⟨trivial, trivial⟩) | refine Le.lst rfl (fun _ _ => rfl) (fun _ => ⟨trivial, trivial⟩) ?_ | refine Le.lst rfl (fun _ _ => rfl) (fun _ => ⟨fun _ => ⟨trivial, trivial⟩, trivial⟩) ?_ | exact Le.nils rfl (fun _ => ⟨fun _ => ⟨trivial, trivial⟩, trivial⟩) | refine Le.agg ?_ | refine Le.tup ?_ | exact Le.any _))) <;> (refine .i ?_; show IntKind.i64.wrap ((i : Int) + 1) = ((i + 1 : Nat) : Int); rw [w64 (by omega) (by omega)]; rfl), by ((try cbv) <;> (repeat' (first | with_reducible exact trivial | with_reducible refine And.intro ?_ ?_)) <;> (try first | exact SlotLe.refl _ | exact SlotLe.dyn rfl | refine SlotLe.fix ?_ | refine SlotLe.dyn ?_) <;> ((repeat' first | exact LeL.nil | exact Le.refl _ | refine LeL.cons ?_ ?_ | exact Le.ic rfl | exact Le.bc rfl | exact Le.i rfl | exact Le.b rfl | exact Le.sl rfl | exact Le.nils rfl (fun _ => ⟨trivial, trivial⟩) | refine Le.lst rfl (fun _ _ => rfl) (fun _ => ⟨trivial, trivial⟩) ?_ | refine Le.lst rfl (fun _ _ => rfl) (fun _ => ⟨fun _ => ⟨trivial, trivial⟩, trivial⟩) ?_ | exact Le.nils rfl (fun _ => ⟨fun _ => ⟨trivial, trivial⟩, trivial⟩) | refine Le.agg ?_ | refine Le.tup ?_ | exact Le.any _))), ⟨by omega, by show z.2.pool.length - (i + 1) < z.2.pool.length - i; omega⟩⟩
end Go.Proofs.Tran
