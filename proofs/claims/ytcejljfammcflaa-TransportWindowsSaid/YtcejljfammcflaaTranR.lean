/-
  The transport's script: a step.
-/
import Derived.Test.YtcejljfammcflaaTranQ
set_option linter.unusedVariables false
set_option linter.unusedSimpArgs false
set_option maxRecDepth 10000
set_option maxHeartbeats 1000000
namespace Go.Proofs.Tran
open Go Go.Vc

theorem step_ok : SpecOk (PP ()) 32 stepS := by
  refine spec_of_vc (lv := 2) ctx19_ok ctx19_inl (fnOk_of Try.func32 (by kernel_rfl)) (by kernel_rfl) (fun a => ⟨Wd.lf fun _ => a.w, ⟨trivial, trivial, fun y => (cU8_ok y).1, trivial⟩, trivial⟩) (fun a => Wd.lf fun _ => stepM a.a a.w) ?_
  intro x hx
  have hx : (∃ n, n ≤ 100000 ∧ x.w.Inv n) ∧ (0 ≤ x.a.kind ∧ x.a.kind < 256) ∧ (0 ≤ x.a.n ∧ x.a.n < 256) := hx
  obtain ⟨n, hn100, I⟩ := hx.1
  have k0 := hx.2.1.1
  have k1 := hx.2.1.2
  have n0 := hx.2.2.1
  have n1 := hx.2.2.2
  have so0 := I.oa.sm.1
  have si0 := I.oa.sm.2
  have so1 := I.ob.sm.1
  have si1 := I.ob.sm.2
  have hd6 : (x.a.d.take 6).length ≤ 1000000 := by simp; omega
  have ls0 : x.w.s0.length ≤ 1000000000 := by have := I.da.sn; omega
  have ls1 : x.w.s1.length ≤ 1000000000 := by have := I.db.sn; omega
  have lg1 : x.w.g1.length ≤ 1000000000 := by have := I.da.le; simp only [List.length_append] at this; omega
  have lg0 : x.w.g0.length ≤ 1000000000 := by have := I.db.le; simp only [List.length_append] at this; omega
  have lp := I.pn
  have lp' : x.w.pool.length ≤ 100000 := by omega
  have hb1 : (0 + x.w.pool.length) * 56 ≤ 140737488355328 ∧ 0 + x.w.pool.length ≤ 9223372036854775807 := by omega
  have hb2 : (([] ++ x.w.pool : List Fl).length + 1) * 56 ≤ 140737488355328 ∧ ([] ++ x.w.pool : List Fl).length + 1 ≤ 9223372036854775807 := by simp only [List.nil_append]; omega
  have hw8 : IntKind.u8.wrap (x.a.n / 2) = x.a.n / 2 := wrap_u8 (by omega) (by omega)
  have hwq : IntKind.i64.wrap (x.a.n / 2) = x.a.n / 2 := w64 (by omega) (by omega)
  have hwn : IntKind.i64.wrap x.a.n = x.a.n := w64 (by omega) (by omega)
  have hq : (IntKind.i64.wrap (IntKind.u8.wrap (x.a.n.tdiv 2))).tmod 4 = x.a.n / 2 % 4 := by rw [Int.tdiv_eq_ediv_of_nonneg n0, hw8, hwq, tmod_pos (by omega)]
  obtain ⟨q4, hq4⟩ : ∃ q, q = x.a.n / 2 % 4 := ⟨_, rfl⟩
  rw [← hq4] at hq
  obtain ⟨j, hj⟩ : ∃ j, j = x.a.n % (x.w.pool.length : Int) := ⟨_, rfl⟩
  have hjt : (IntKind.i64.wrap x.a.n).tmod (x.w.pool.length : Int) = j := by rw [hwn, tmod_pos n0, hj]
  have hj0 : ltB 0 (x.w.pool.length : Int) = true → 0 ≤ j ∧ j < (x.w.pool.length : Int) ∧ ∃ f, x.w.pool[j.toNat]? = some f := by
    intro h
    have h : 0 < (x.w.pool.length : Int) := by simpa [ltB] using h
    have h1 : 0 ≤ j := by rw [hj]; exact Int.emod_nonneg _ (by omega)
    have h2 : j < (x.w.pool.length : Int) := by rw [hj]; exact Int.emod_lt_of_pos _ h
    exact ⟨h1, h2, _, List.getElem?_eq_getElem (by omega)⟩
  have hp0 : ltB 0 (x.w.pool.length : Int) = false → x.w.pool = [] := by
    intro h
    have h : (x.w.pool.length : Int) ≤ 0 := by simpa [ltB] using h
    exact List.length_eq_zero_iff.1 (by omega)
  rcases (show x.a.n % 2 = 0 ∨ x.a.n % 2 = 1 by omega) with hn | hn
  · have hm : IntKind.i64.wrap (x.a.n.tmod 2) = 0 := by rw [tmod_pos n0, hn]; rfl
    have hmo : IntKind.i64.wrap (1 - IntKind.i64.wrap (x.a.n.tmod 2)) = 1 := by rw [hm]; rfl
    refine ⟨?_⟩
    cbv
    refine ⟨⟨by decide⟩, ⟨by decide⟩, ?_⟩
    refine ⟨fun h => ?_, fun h => ?_⟩
    · have hk : x.a.kind % 6 = 0 := kind_of k0 h.out
      cbv
      refine ⟨0, ⟨hm, by decide⟩, ?_⟩
      cbv
      refine ⟨x.a, ⟨by ((repeat' first | exact LeL.nil | exact Le.refl _ | refine LeL.cons ?_ ?_ | exact Le.ic rfl | exact Le.bc rfl | exact Le.i rfl | exact Le.b rfl | exact Le.sl rfl | exact Le.nils rfl (fun _ => ⟨trivial, trivial⟩) | refine Le.lst rfl (fun _ _ => rfl) (fun _ => ⟨trivial, trivial⟩) ?_ | refine Le.lst rfl (fun _ _ => rfl) (fun _ => ⟨fun _ => ⟨trivial, trivial⟩, trivial⟩) ?_ | exact Le.nils rfl (fun _ => ⟨fun _ => ⟨trivial, trivial⟩, trivial⟩) | refine Le.agg ?_ | refine Le.tup ?_ | exact Le.any _)), trivial⟩, ?_⟩
      cbv
      refine ⟨⟨x.w.l0, x.a.d.take 6⟩, ⟨by ((repeat' first | exact LeL.nil | exact Le.refl _ | refine LeL.cons ?_ ?_ | exact Le.ic rfl | exact Le.bc rfl | exact Le.i rfl | exact Le.b rfl | exact Le.sl rfl | exact Le.nils rfl (fun _ => ⟨trivial, trivial⟩) | refine Le.lst rfl (fun _ _ => rfl) (fun _ => ⟨trivial, trivial⟩) ?_ | refine Le.lst rfl (fun _ _ => rfl) (fun _ => ⟨fun _ => ⟨trivial, trivial⟩, trivial⟩) ?_ | exact Le.nils rfl (fun _ => ⟨fun _ => ⟨trivial, trivial⟩, trivial⟩) | refine Le.agg ?_ | refine Le.tup ?_ | exact Le.any _)), so0, si0, hd6⟩, ?_⟩
      cbv
      refine ⟨fun h => ?_, fun h => ?_⟩
      · have he : sndE x.w.l0 (x.a.d.take 6) = 0 := eq_of h.out
        have hr := step_0a (w := x.w) hk hn he
        cbv
        refine ⟨0, ⟨hm, by decide⟩, ?_⟩
        cbv
        refine ⟨0, ⟨hm, by decide⟩, ?_⟩
        cbv
        refine ⟨x.a, ⟨by ((repeat' first | exact LeL.nil | exact Le.refl _ | refine LeL.cons ?_ ?_ | exact Le.ic rfl | exact Le.bc rfl | exact Le.i rfl | exact Le.b rfl | exact Le.sl rfl | exact Le.nils rfl (fun _ => ⟨trivial, trivial⟩) | refine Le.lst rfl (fun _ _ => rfl) (fun _ => ⟨trivial, trivial⟩) ?_ | refine Le.lst rfl (fun _ _ => rfl) (fun _ => ⟨fun _ => ⟨trivial, trivial⟩, trivial⟩) ?_ | exact Le.nils rfl (fun _ => ⟨fun _ => ⟨trivial, trivial⟩, trivial⟩) | refine Le.agg ?_ | refine Le.tup ?_ | exact Le.any _)), trivial⟩, ?_⟩
        cbv
        refine ⟨⟨x.w.s0, x.a.d.take 6⟩, ⟨by ((repeat' first | exact LeL.nil | exact Le.refl _ | refine LeL.cons ?_ ?_ | exact Le.ic rfl | exact Le.bc rfl | exact Le.i rfl | exact Le.b rfl | exact Le.sl rfl | exact Le.nils rfl (fun _ => ⟨trivial, trivial⟩) | refine Le.lst rfl (fun _ _ => rfl) (fun _ => ⟨trivial, trivial⟩) ?_ | refine Le.lst rfl (fun _ _ => rfl) (fun _ => ⟨fun _ => ⟨trivial, trivial⟩, trivial⟩) ?_ | exact Le.nils rfl (fun _ => ⟨fun _ => ⟨trivial, trivial⟩, trivial⟩) | refine Le.agg ?_ | refine Le.tup ?_ | exact Le.any _)), ls0⟩, ?_⟩
        cbv
        refine ⟨0, ⟨hm, by decide⟩, ?_⟩
        cbv
        rw [hr]
        exact ⟨.agg (by ((repeat' first | exact LeL.nil | exact Le.refl _ | refine LeL.cons ?_ ?_ | exact Le.ic rfl | exact Le.bc rfl | exact Le.i rfl | exact Le.b rfl | exact Le.sl rfl | exact Le.nils rfl (fun _ => ⟨trivial, trivial⟩) | refine Le.lst rfl (fun _ _ => rfl) (fun _ => ⟨trivial, trivial⟩) ?_ | refine Le.lst rfl (fun _ _ => rfl) (fun _ => ⟨fun _ => ⟨trivial, trivial⟩, trivial⟩) ?_ | exact Le.nils rfl (fun _ => ⟨fun _ => ⟨trivial, trivial⟩, trivial⟩) | refine Le.agg ?_ | refine Le.tup ?_ | exact Le.any _)))⟩
      have he : ¬ sndE x.w.l0 (x.a.d.take 6) = 0 := ne_of h.out
      have hr := step_0b (w := x.w) hk hn he
      cbv
      rw [hr]
      exact ⟨.agg (by ((repeat' first | exact LeL.nil | exact Le.refl _ | refine LeL.cons ?_ ?_ | exact Le.ic rfl | exact Le.bc rfl | exact Le.i rfl | exact Le.b rfl | exact Le.sl rfl | exact Le.nils rfl (fun _ => ⟨trivial, trivial⟩) | refine Le.lst rfl (fun _ _ => rfl) (fun _ => ⟨trivial, trivial⟩) ?_ | refine Le.lst rfl (fun _ _ => rfl) (fun _ => ⟨fun _ => ⟨trivial, trivial⟩, trivial⟩) ?_ | exact Le.nils rfl (fun _ => ⟨fun _ => ⟨trivial, trivial⟩, trivial⟩) | refine Le.agg ?_ | refine Le.tup ?_ | exact Le.any _)))⟩
    have m0 : ¬ x.a.kind % 6 = 0 := kind_ne k0 h.out
    cbv
    refine ⟨fun h => ?_, fun h => ?_⟩
    · have hk : x.a.kind % 6 = 1 := kind_of k0 h.out
      cbv
      refine ⟨0, ⟨hm, by decide⟩, ?_⟩
      cbv
      refine ⟨⟨by decide⟩, ⟨by decide⟩, ?_⟩
      cbv
      refine ⟨⟨x.w.l0, q4⟩, ⟨by ((repeat' first | exact LeL.nil | exact Le.refl _ | refine LeL.cons ?_ ?_ | exact Le.ic rfl | exact Le.bc rfl | exact Le.i rfl | exact Le.b rfl | exact Le.sl rfl | exact Le.nils rfl (fun _ => ⟨trivial, trivial⟩) | refine Le.lst rfl (fun _ _ => rfl) (fun _ => ⟨trivial, trivial⟩) ?_ | refine Le.lst rfl (fun _ _ => rfl) (fun _ => ⟨fun _ => ⟨trivial, trivial⟩, trivial⟩) ?_ | exact Le.nils rfl (fun _ => ⟨fun _ => ⟨trivial, trivial⟩, trivial⟩) | refine Le.agg ?_ | refine Le.tup ?_ | exact Le.any _)); exact .i hq, so0⟩, ?_⟩
      cbv
      refine ⟨fun h => ?_, fun h => ?_⟩
      · have he : pktE x.w.l0 q4 = 0 := eq_of h.out
        have hr := step_1a (w := x.w) hk hn (by rw [← hq4]; exact he)
        rw [← hq4] at hr
        cbv
        refine ⟨x.w.pool, ⟨by ((repeat' first | exact LeL.nil | exact Le.refl _ | refine LeL.cons ?_ ?_ | exact Le.ic rfl | exact Le.bc rfl | exact Le.i rfl | exact Le.b rfl | exact Le.sl rfl | exact Le.nils rfl (fun _ => ⟨trivial, trivial⟩) | refine Le.lst rfl (fun _ _ => rfl) (fun _ => ⟨trivial, trivial⟩) ?_ | refine Le.lst rfl (fun _ _ => rfl) (fun _ => ⟨fun _ => ⟨trivial, trivial⟩, trivial⟩) ?_ | exact Le.nils rfl (fun _ => ⟨fun _ => ⟨trivial, trivial⟩, trivial⟩) | refine Le.agg ?_ | refine Le.tup ?_ | exact Le.any _)), hb1⟩, ?_⟩
        cbv
        refine ⟨[⟨1, pktP x.w.l0 q4⟩], ⟨by cbv; ((repeat' first | exact LeL.nil | exact Le.refl _ | refine LeL.cons ?_ ?_ | exact Le.ic rfl | exact Le.bc rfl | exact Le.i rfl | exact Le.b rfl | exact Le.sl rfl | exact Le.nils rfl (fun _ => ⟨trivial, trivial⟩) | refine Le.lst rfl (fun _ _ => rfl) (fun _ => ⟨trivial, trivial⟩) ?_ | refine Le.lst rfl (fun _ _ => rfl) (fun _ => ⟨fun _ => ⟨trivial, trivial⟩, trivial⟩) ?_ | exact Le.nils rfl (fun _ => ⟨fun _ => ⟨trivial, trivial⟩, trivial⟩) | refine Le.agg ?_ | refine Le.tup ?_ | exact Le.any _)); refine Le.lst rfl (fun _ _ => rfl) (fun y => (cFl_ok y).1) ?_; ((repeat' first | exact LeL.nil | exact Le.refl _ | refine LeL.cons ?_ ?_ | exact Le.ic rfl | exact Le.bc rfl | exact Le.i rfl | exact Le.b rfl | exact Le.sl rfl | exact Le.nils rfl (fun _ => ⟨trivial, trivial⟩) | refine Le.lst rfl (fun _ _ => rfl) (fun _ => ⟨trivial, trivial⟩) ?_ | refine Le.lst rfl (fun _ _ => rfl) (fun _ => ⟨fun _ => ⟨trivial, trivial⟩, trivial⟩) ?_ | exact Le.nils rfl (fun _ => ⟨fun _ => ⟨trivial, trivial⟩, trivial⟩) | refine Le.agg ?_ | refine Le.tup ?_ | exact Le.any _)); exact .i hmo, hb2⟩, ?_⟩
        cbv
        rw [hr]
        exact ⟨.agg (by ((repeat' first | exact LeL.nil | exact Le.refl _ | refine LeL.cons ?_ ?_ | exact Le.ic rfl | exact Le.bc rfl | exact Le.i rfl | exact Le.b rfl | exact Le.sl rfl | exact Le.nils rfl (fun _ => ⟨trivial, trivial⟩) | refine Le.lst rfl (fun _ _ => rfl) (fun _ => ⟨trivial, trivial⟩) ?_ | refine Le.lst rfl (fun _ _ => rfl) (fun _ => ⟨fun _ => ⟨trivial, trivial⟩, trivial⟩) ?_ | exact Le.nils rfl (fun _ => ⟨fun _ => ⟨trivial, trivial⟩, trivial⟩) | refine Le.agg ?_ | refine Le.tup ?_ | exact Le.any _)))⟩
      have he : ¬ pktE x.w.l0 q4 = 0 := ne_of h.out
      have hr := step_1b (w := x.w) hk hn (by rw [← hq4]; exact he)
      cbv
      rw [hr]
      exact ⟨.agg (by ((repeat' first | exact LeL.nil | exact Le.refl _ | refine LeL.cons ?_ ?_ | exact Le.ic rfl | exact Le.bc rfl | exact Le.i rfl | exact Le.b rfl | exact Le.sl rfl | exact Le.nils rfl (fun _ => ⟨trivial, trivial⟩) | refine Le.lst rfl (fun _ _ => rfl) (fun _ => ⟨trivial, trivial⟩) ?_ | refine Le.lst rfl (fun _ _ => rfl) (fun _ => ⟨fun _ => ⟨trivial, trivial⟩, trivial⟩) ?_ | exact Le.nils rfl (fun _ => ⟨fun _ => ⟨trivial, trivial⟩, trivial⟩) | refine Le.agg ?_ | refine Le.tup ?_ | exact Le.any _)))⟩
    have m1 : ¬ x.a.kind % 6 = 1 := kind_ne k0 h.out
    cbv
    refine ⟨fun h => ?_, fun h => ?_⟩
    · have hk : x.a.kind % 6 = 2 := kind_of k0 h.out
      cbv
      refine ⟨x.w.pool, ⟨by ((repeat' first | exact LeL.nil | exact Le.refl _ | refine LeL.cons ?_ ?_ | exact Le.ic rfl | exact Le.bc rfl | exact Le.i rfl | exact Le.b rfl | exact Le.sl rfl | exact Le.nils rfl (fun _ => ⟨trivial, trivial⟩) | refine Le.lst rfl (fun _ _ => rfl) (fun _ => ⟨trivial, trivial⟩) ?_ | refine Le.lst rfl (fun _ _ => rfl) (fun _ => ⟨fun _ => ⟨trivial, trivial⟩, trivial⟩) ?_ | exact Le.nils rfl (fun _ => ⟨fun _ => ⟨trivial, trivial⟩, trivial⟩) | refine Le.agg ?_ | refine Le.tup ?_ | exact Le.any _)), hb1⟩, ?_⟩
      cbv
      refine ⟨0, ⟨hm, by decide⟩, ?_⟩
      cbv
      refine ⟨x.w.l0, ⟨by ((repeat' first | exact LeL.nil | exact Le.refl _ | refine LeL.cons ?_ ?_ | exact Le.ic rfl | exact Le.bc rfl | exact Le.i rfl | exact Le.b rfl | exact Le.sl rfl | exact Le.nils rfl (fun _ => ⟨trivial, trivial⟩) | refine Le.lst rfl (fun _ _ => rfl) (fun _ => ⟨trivial, trivial⟩) ?_ | refine Le.lst rfl (fun _ _ => rfl) (fun _ => ⟨fun _ => ⟨trivial, trivial⟩, trivial⟩) ?_ | exact Le.nils rfl (fun _ => ⟨fun _ => ⟨trivial, trivial⟩, trivial⟩) | refine Le.agg ?_ | refine Le.tup ?_ | exact Le.any _)), trivial⟩, ?_⟩
      cbv
      refine ⟨[⟨1, sig x.w.l0 (-1) []⟩], ⟨by cbv; ((repeat' first | exact LeL.nil | exact Le.refl _ | refine LeL.cons ?_ ?_ | exact Le.ic rfl | exact Le.bc rfl | exact Le.i rfl | exact Le.b rfl | exact Le.sl rfl | exact Le.nils rfl (fun _ => ⟨trivial, trivial⟩) | refine Le.lst rfl (fun _ _ => rfl) (fun _ => ⟨trivial, trivial⟩) ?_ | refine Le.lst rfl (fun _ _ => rfl) (fun _ => ⟨fun _ => ⟨trivial, trivial⟩, trivial⟩) ?_ | exact Le.nils rfl (fun _ => ⟨fun _ => ⟨trivial, trivial⟩, trivial⟩) | refine Le.agg ?_ | refine Le.tup ?_ | exact Le.any _)); refine Le.lst rfl (fun _ _ => rfl) (fun y => (cFl_ok y).1) ?_; ((repeat' first | exact LeL.nil | exact Le.refl _ | refine LeL.cons ?_ ?_ | exact Le.ic rfl | exact Le.bc rfl | exact Le.i rfl | exact Le.b rfl | exact Le.sl rfl | exact Le.nils rfl (fun _ => ⟨trivial, trivial⟩) | refine Le.lst rfl (fun _ _ => rfl) (fun _ => ⟨trivial, trivial⟩) ?_ | refine Le.lst rfl (fun _ _ => rfl) (fun _ => ⟨fun _ => ⟨trivial, trivial⟩, trivial⟩) ?_ | exact Le.nils rfl (fun _ => ⟨fun _ => ⟨trivial, trivial⟩, trivial⟩) | refine Le.agg ?_ | refine Le.tup ?_ | exact Le.any _)); exact .i hmo, hb2⟩, ?_⟩
      have hr := step_2a (w := x.w) hk hn
      cbv
      rw [hr]
      exact ⟨.agg (by ((repeat' first | exact LeL.nil | exact Le.refl _ | refine LeL.cons ?_ ?_ | exact Le.ic rfl | exact Le.bc rfl | exact Le.i rfl | exact Le.b rfl | exact Le.sl rfl | exact Le.nils rfl (fun _ => ⟨trivial, trivial⟩) | refine Le.lst rfl (fun _ _ => rfl) (fun _ => ⟨trivial, trivial⟩) ?_ | refine Le.lst rfl (fun _ _ => rfl) (fun _ => ⟨fun _ => ⟨trivial, trivial⟩, trivial⟩) ?_ | exact Le.nils rfl (fun _ => ⟨fun _ => ⟨trivial, trivial⟩, trivial⟩) | refine Le.agg ?_ | refine Le.tup ?_ | exact Le.any _)))⟩
    have m2 : ¬ x.a.kind % 6 = 2 := kind_ne k0 h.out
    cbv
    refine ⟨fun h => ?_, fun h => ?_⟩
    · have hk : x.a.kind % 6 = 3 := kind_of k0 h.out
      cbv
      refine ⟨fun h => ?_, fun h => ?_⟩
      · have hp : ltB 0 (x.w.pool.length : Int) = true := h.out
        have hjj := hj0 hp
        cbv
        obtain ⟨j0, j1, f, hf⟩ := hjj
        refine ⟨⟨by ((try simp only [Go.Vc.natc] at *); omega)⟩, f, ⟨by rw [show (IntKind.i64.wrap x.a.n).tmod (x.w.pool.length : Int) = j from hjt]; exact j0, by rw [show (IntKind.i64.wrap x.a.n).tmod (x.w.pool.length : Int) = j from hjt]; exact hf⟩, ?_⟩
        cbv
        rcases I.pool f (List.mem_of_getElem? hf) with q | q
        · have hpk := q.2
          have hto := q.1
          have hok : LP.Ok ⟨x.w.l1, f.p⟩ := I.ob.lp (by have := hpk.data I.da.sm; omega) (by have := hpk.a1; have := I.oa.g1; omega)
          refine ⟨1, ⟨hto, by decide⟩, ?_⟩
          cbv
          refine ⟨⟨x.w.l1, f.p⟩, ⟨by ((repeat' first | exact LeL.nil | exact Le.refl _ | refine LeL.cons ?_ ?_ | exact Le.ic rfl | exact Le.bc rfl | exact Le.i rfl | exact Le.b rfl | exact Le.sl rfl | exact Le.nils rfl (fun _ => ⟨trivial, trivial⟩) | refine Le.lst rfl (fun _ _ => rfl) (fun _ => ⟨trivial, trivial⟩) ?_ | refine Le.lst rfl (fun _ _ => rfl) (fun _ => ⟨fun _ => ⟨trivial, trivial⟩, trivial⟩) ?_ | exact Le.nils rfl (fun _ => ⟨fun _ => ⟨trivial, trivial⟩, trivial⟩) | refine Le.agg ?_ | refine Le.tup ?_ | exact Le.any _)), hok⟩, ?_⟩
          cbv
          refine ⟨fun h => ?_, fun h => ?_⟩
          · have he : recE x.w.l1 f.p = 0 := eq_of h.out
            have hr := step_3c (w := x.w) hk hj.symm hf hto he
            cbv
            refine ⟨1, ⟨hto, by decide⟩, ?_⟩
            cbv
            rw [hr]
            exact ⟨.agg (by ((repeat' first | exact LeL.nil | exact Le.refl _ | refine LeL.cons ?_ ?_ | exact Le.ic rfl | exact Le.bc rfl | exact Le.i rfl | exact Le.b rfl | exact Le.sl rfl | exact Le.nils rfl (fun _ => ⟨trivial, trivial⟩) | refine Le.lst rfl (fun _ _ => rfl) (fun _ => ⟨trivial, trivial⟩) ?_ | refine Le.lst rfl (fun _ _ => rfl) (fun _ => ⟨fun _ => ⟨trivial, trivial⟩, trivial⟩) ?_ | exact Le.nils rfl (fun _ => ⟨fun _ => ⟨trivial, trivial⟩, trivial⟩) | refine Le.agg ?_ | refine Le.tup ?_ | exact Le.any _)))⟩
          have he : ¬ recE x.w.l1 f.p = 0 := ne_of h.out
          have hr := step_3d (w := x.w) hk hj.symm hf hto he
          cbv
          rw [hr]
          exact ⟨.agg (by ((repeat' first | exact LeL.nil | exact Le.refl _ | refine LeL.cons ?_ ?_ | exact Le.ic rfl | exact Le.bc rfl | exact Le.i rfl | exact Le.b rfl | exact Le.sl rfl | exact Le.nils rfl (fun _ => ⟨trivial, trivial⟩) | refine Le.lst rfl (fun _ _ => rfl) (fun _ => ⟨trivial, trivial⟩) ?_ | refine Le.lst rfl (fun _ _ => rfl) (fun _ => ⟨fun _ => ⟨trivial, trivial⟩, trivial⟩) ?_ | exact Le.nils rfl (fun _ => ⟨fun _ => ⟨trivial, trivial⟩, trivial⟩) | refine Le.agg ?_ | refine Le.tup ?_ | exact Le.any _)))⟩
        · have hpk := q.2
          have hto := q.1
          have hok : LP.Ok ⟨x.w.l0, f.p⟩ := I.oa.lp (by have := hpk.data I.db.sm; omega) (by have := hpk.a1; have := I.ob.g1; omega)
          refine ⟨0, ⟨hto, by decide⟩, ?_⟩
          cbv
          refine ⟨⟨x.w.l0, f.p⟩, ⟨by ((repeat' first | exact LeL.nil | exact Le.refl _ | refine LeL.cons ?_ ?_ | exact Le.ic rfl | exact Le.bc rfl | exact Le.i rfl | exact Le.b rfl | exact Le.sl rfl | exact Le.nils rfl (fun _ => ⟨trivial, trivial⟩) | refine Le.lst rfl (fun _ _ => rfl) (fun _ => ⟨trivial, trivial⟩) ?_ | refine Le.lst rfl (fun _ _ => rfl) (fun _ => ⟨fun _ => ⟨trivial, trivial⟩, trivial⟩) ?_ | exact Le.nils rfl (fun _ => ⟨fun _ => ⟨trivial, trivial⟩, trivial⟩) | refine Le.agg ?_ | refine Le.tup ?_ | exact Le.any _)), hok⟩, ?_⟩
          cbv
          refine ⟨fun h => ?_, fun h => ?_⟩
          · have he : recE x.w.l0 f.p = 0 := eq_of h.out
            have hr := step_3a (w := x.w) hk hj.symm hf hto he
            cbv
            refine ⟨0, ⟨hto, by decide⟩, ?_⟩
            cbv
            rw [hr]
            exact ⟨.agg (by ((repeat' first | exact LeL.nil | exact Le.refl _ | refine LeL.cons ?_ ?_ | exact Le.ic rfl | exact Le.bc rfl | exact Le.i rfl | exact Le.b rfl | exact Le.sl rfl | exact Le.nils rfl (fun _ => ⟨trivial, trivial⟩) | refine Le.lst rfl (fun _ _ => rfl) (fun _ => ⟨trivial, trivial⟩) ?_ | refine Le.lst rfl (fun _ _ => rfl) (fun _ => ⟨fun _ => ⟨trivial, trivial⟩, trivial⟩) ?_ | exact Le.nils rfl (fun _ => ⟨fun _ => ⟨trivial, trivial⟩, trivial⟩) | refine Le.agg ?_ | refine Le.tup ?_ | exact Le.any _)))⟩
          have he : ¬ recE x.w.l0 f.p = 0 := ne_of h.out
          have hr := step_3b (w := x.w) hk hj.symm hf hto he
          cbv
          rw [hr]
          exact ⟨.agg (by ((repeat' first | exact LeL.nil | exact Le.refl _ | refine LeL.cons ?_ ?_ | exact Le.ic rfl | exact Le.bc rfl | exact Le.i rfl | exact Le.b rfl | exact Le.sl rfl | exact Le.nils rfl (fun _ => ⟨trivial, trivial⟩) | refine Le.lst rfl (fun _ _ => rfl) (fun _ => ⟨trivial, trivial⟩) ?_ | refine Le.lst rfl (fun _ _ => rfl) (fun _ => ⟨fun _ => ⟨trivial, trivial⟩, trivial⟩) ?_ | exact Le.nils rfl (fun _ => ⟨fun _ => ⟨trivial, trivial⟩, trivial⟩) | refine Le.agg ?_ | refine Le.tup ?_ | exact Le.any _)))⟩
      have hp := hp0 h.out
      have hr := step_3n (w := x.w) hk hp
      cbv
      rw [hr]
      exact ⟨.agg (by ((repeat' first | exact LeL.nil | exact Le.refl _ | refine LeL.cons ?_ ?_ | exact Le.ic rfl | exact Le.bc rfl | exact Le.i rfl | exact Le.b rfl | exact Le.sl rfl | exact Le.nils rfl (fun _ => ⟨trivial, trivial⟩) | refine Le.lst rfl (fun _ _ => rfl) (fun _ => ⟨trivial, trivial⟩) ?_ | refine Le.lst rfl (fun _ _ => rfl) (fun _ => ⟨fun _ => ⟨trivial, trivial⟩, trivial⟩) ?_ | exact Le.nils rfl (fun _ => ⟨fun _ => ⟨trivial, trivial⟩, trivial⟩) | refine Le.agg ?_ | refine Le.tup ?_ | exact Le.any _)))⟩
    have m3 : ¬ x.a.kind % 6 = 3 := kind_ne k0 h.out
    cbv
    refine ⟨fun h => ?_, fun h => ?_⟩
    · have hk : x.a.kind % 6 = 4 := kind_of k0 h.out
      cbv
      refine ⟨0, ⟨hm, by decide⟩, ?_⟩
      cbv
      refine ⟨x.w.l0, ⟨by ((repeat' first | exact LeL.nil | exact Le.refl _ | refine LeL.cons ?_ ?_ | exact Le.ic rfl | exact Le.bc rfl | exact Le.i rfl | exact Le.b rfl | exact Le.sl rfl | exact Le.nils rfl (fun _ => ⟨trivial, trivial⟩) | refine Le.lst rfl (fun _ _ => rfl) (fun _ => ⟨trivial, trivial⟩) ?_ | refine Le.lst rfl (fun _ _ => rfl) (fun _ => ⟨fun _ => ⟨trivial, trivial⟩, trivial⟩) ?_ | exact Le.nils rfl (fun _ => ⟨fun _ => ⟨trivial, trivial⟩, trivial⟩) | refine Le.agg ?_ | refine Le.tup ?_ | exact Le.any _)), so0, si0⟩, ?_⟩
      cbv
      refine ⟨fun h => ?_, fun h => ?_⟩
      · have he : takE x.w.l0 = 0 := eq_of h.out
        have hr := step_4a (w := x.w) hk hn he
        cbv
        refine ⟨0, ⟨hm, by decide⟩, ?_⟩
        cbv
        refine ⟨0, ⟨hm, by decide⟩, ?_⟩
        cbv
        refine ⟨⟨x.w.g0, takD x.w.l0⟩, ⟨by ((repeat' first | exact LeL.nil | exact Le.refl _ | refine LeL.cons ?_ ?_ | exact Le.ic rfl | exact Le.bc rfl | exact Le.i rfl | exact Le.b rfl | exact Le.sl rfl | exact Le.nils rfl (fun _ => ⟨trivial, trivial⟩) | refine Le.lst rfl (fun _ _ => rfl) (fun _ => ⟨trivial, trivial⟩) ?_ | refine Le.lst rfl (fun _ _ => rfl) (fun _ => ⟨fun _ => ⟨trivial, trivial⟩, trivial⟩) ?_ | exact Le.nils rfl (fun _ => ⟨fun _ => ⟨trivial, trivial⟩, trivial⟩) | refine Le.agg ?_ | refine Le.tup ?_ | exact Le.any _)), lg0⟩, ?_⟩
        cbv
        refine ⟨0, ⟨hm, by decide⟩, ?_⟩
        cbv
        rw [hr]
        exact ⟨.agg (by ((repeat' first | exact LeL.nil | exact Le.refl _ | refine LeL.cons ?_ ?_ | exact Le.ic rfl | exact Le.bc rfl | exact Le.i rfl | exact Le.b rfl | exact Le.sl rfl | exact Le.nils rfl (fun _ => ⟨trivial, trivial⟩) | refine Le.lst rfl (fun _ _ => rfl) (fun _ => ⟨trivial, trivial⟩) ?_ | refine Le.lst rfl (fun _ _ => rfl) (fun _ => ⟨fun _ => ⟨trivial, trivial⟩, trivial⟩) ?_ | exact Le.nils rfl (fun _ => ⟨fun _ => ⟨trivial, trivial⟩, trivial⟩) | refine Le.agg ?_ | refine Le.tup ?_ | exact Le.any _)))⟩
      have he : ¬ takE x.w.l0 = 0 := ne_of h.out
      have hr := step_4b (w := x.w) hk hn he
      cbv
      rw [hr]
      exact ⟨.agg (by ((repeat' first | exact LeL.nil | exact Le.refl _ | refine LeL.cons ?_ ?_ | exact Le.ic rfl | exact Le.bc rfl | exact Le.i rfl | exact Le.b rfl | exact Le.sl rfl | exact Le.nils rfl (fun _ => ⟨trivial, trivial⟩) | refine Le.lst rfl (fun _ _ => rfl) (fun _ => ⟨trivial, trivial⟩) ?_ | refine Le.lst rfl (fun _ _ => rfl) (fun _ => ⟨fun _ => ⟨trivial, trivial⟩, trivial⟩) ?_ | exact Le.nils rfl (fun _ => ⟨fun _ => ⟨trivial, trivial⟩, trivial⟩) | refine Le.agg ?_ | refine Le.tup ?_ | exact Le.any _)))⟩
    have m4 : ¬ x.a.kind % 6 = 4 := kind_ne k0 h.out
    cbv
    refine ⟨fun h => ?_, fun h => ?_⟩
    · have hk : x.a.kind % 6 = 5 := by omega
      have hp : ltB 0 (x.w.pool.length : Int) = true := h.out
      have hjj := hj0 hp
      have hr := step_5a (w := x.w) hk
      rw [← hj] at hr
      cbv
      obtain ⟨j0, j1, f, hf⟩ := hjj
      refine ⟨⟨by ((try simp only [Go.Vc.natc] at *); omega)⟩, ⟨x.w.pool, j⟩, ⟨by ((repeat' first | exact LeL.nil | exact Le.refl _ | refine LeL.cons ?_ ?_ | exact Le.ic rfl | exact Le.bc rfl | exact Le.i rfl | exact Le.b rfl | exact Le.sl rfl | exact Le.nils rfl (fun _ => ⟨trivial, trivial⟩) | refine Le.lst rfl (fun _ _ => rfl) (fun _ => ⟨trivial, trivial⟩) ?_ | refine Le.lst rfl (fun _ _ => rfl) (fun _ => ⟨fun _ => ⟨trivial, trivial⟩, trivial⟩) ?_ | exact Le.nils rfl (fun _ => ⟨fun _ => ⟨trivial, trivial⟩, trivial⟩) | refine Le.agg ?_ | refine Le.tup ?_ | exact Le.any _)); exact .i hjt, lp', j0, j1⟩, ?_⟩
      cbv
      rw [hr]
      exact ⟨.agg (by ((repeat' first | exact LeL.nil | exact Le.refl _ | refine LeL.cons ?_ ?_ | exact Le.ic rfl | exact Le.bc rfl | exact Le.i rfl | exact Le.b rfl | exact Le.sl rfl | exact Le.nils rfl (fun _ => ⟨trivial, trivial⟩) | refine Le.lst rfl (fun _ _ => rfl) (fun _ => ⟨trivial, trivial⟩) ?_ | refine Le.lst rfl (fun _ _ => rfl) (fun _ => ⟨fun _ => ⟨trivial, trivial⟩, trivial⟩) ?_ | exact Le.nils rfl (fun _ => ⟨fun _ => ⟨trivial, trivial⟩, trivial⟩) | refine Le.agg ?_ | refine Le.tup ?_ | exact Le.any _)))⟩
    have hk : x.a.kind % 6 = 5 := by omega
    have hp := hp0 h.out
    have hr := step_5n (w := x.w) hk hp
    cbv
    rw [hr]
    exact ⟨.agg (by ((repeat' first | exact LeL.nil | exact Le.refl _ | refine LeL.cons ?_ ?_ | exact Le.ic rfl | exact Le.bc rfl | exact Le.i rfl | exact Le.b rfl | exact Le.sl rfl | exact Le.nils rfl (fun _ => ⟨trivial, trivial⟩) | refine Le.lst rfl (fun _ _ => rfl) (fun _ => ⟨trivial, trivial⟩) ?_ | refine Le.lst rfl (fun _ _ => rfl) (fun _ => ⟨fun _ => ⟨trivial, trivial⟩, trivial⟩) ?_ | exact Le.nils rfl (fun _ => ⟨fun _ => ⟨trivial, trivial⟩, trivial⟩) | refine Le.agg ?_ | refine Le.tup ?_ | exact Le.any _)))⟩
  · have hm : IntKind.i64.wrap (x.a.n.tmod 2) = 1 := by rw [tmod_pos n0, hn]; rfl
    have hmo : IntKind.i64.wrap (1 - IntKind.i64.wrap (x.a.n.tmod 2)) = 0 := by rw [hm]; rfl
    refine ⟨?_⟩
    cbv
    refine ⟨⟨by decide⟩, ⟨by decide⟩, ?_⟩
    refine ⟨fun h => ?_, fun h => ?_⟩
    · have hk : x.a.kind % 6 = 0 := kind_of k0 h.out
      cbv
      refine ⟨1, ⟨hm, by decide⟩, ?_⟩
      cbv
      refine ⟨x.a, ⟨by ((repeat' first | exact LeL.nil | exact Le.refl _ | refine LeL.cons ?_ ?_ | exact Le.ic rfl | exact Le.bc rfl | exact Le.i rfl | exact Le.b rfl | exact Le.sl rfl | exact Le.nils rfl (fun _ => ⟨trivial, trivial⟩) | refine Le.lst rfl (fun _ _ => rfl) (fun _ => ⟨trivial, trivial⟩) ?_ | refine Le.lst rfl (fun _ _ => rfl) (fun _ => ⟨fun _ => ⟨trivial, trivial⟩, trivial⟩) ?_ | exact Le.nils rfl (fun _ => ⟨fun _ => ⟨trivial, trivial⟩, trivial⟩) | refine Le.agg ?_ | refine Le.tup ?_ | exact Le.any _)), trivial⟩, ?_⟩
      cbv
      refine ⟨⟨x.w.l1, x.a.d.take 6⟩, ⟨by ((repeat' first | exact LeL.nil | exact Le.refl _ | refine LeL.cons ?_ ?_ | exact Le.ic rfl | exact Le.bc rfl | exact Le.i rfl | exact Le.b rfl | exact Le.sl rfl | exact Le.nils rfl (fun _ => ⟨trivial, trivial⟩) | refine Le.lst rfl (fun _ _ => rfl) (fun _ => ⟨trivial, trivial⟩) ?_ | refine Le.lst rfl (fun _ _ => rfl) (fun _ => ⟨fun _ => ⟨trivial, trivial⟩, trivial⟩) ?_ | exact Le.nils rfl (fun _ => ⟨fun _ => ⟨trivial, trivial⟩, trivial⟩) | refine Le.agg ?_ | refine Le.tup ?_ | exact Le.any _)), so1, si1, hd6⟩, ?_⟩
      cbv
      refine ⟨fun h => ?_, fun h => ?_⟩
      · have he : sndE x.w.l1 (x.a.d.take 6) = 0 := eq_of h.out
        have hr := step_0c (w := x.w) hk hn he
        cbv
        refine ⟨1, ⟨hm, by decide⟩, ?_⟩
        cbv
        refine ⟨1, ⟨hm, by decide⟩, ?_⟩
        cbv
        refine ⟨x.a, ⟨by ((repeat' first | exact LeL.nil | exact Le.refl _ | refine LeL.cons ?_ ?_ | exact Le.ic rfl | exact Le.bc rfl | exact Le.i rfl | exact Le.b rfl | exact Le.sl rfl | exact Le.nils rfl (fun _ => ⟨trivial, trivial⟩) | refine Le.lst rfl (fun _ _ => rfl) (fun _ => ⟨trivial, trivial⟩) ?_ | refine Le.lst rfl (fun _ _ => rfl) (fun _ => ⟨fun _ => ⟨trivial, trivial⟩, trivial⟩) ?_ | exact Le.nils rfl (fun _ => ⟨fun _ => ⟨trivial, trivial⟩, trivial⟩) | refine Le.agg ?_ | refine Le.tup ?_ | exact Le.any _)), trivial⟩, ?_⟩
        cbv
        refine ⟨⟨x.w.s1, x.a.d.take 6⟩, ⟨by ((repeat' first | exact LeL.nil | exact Le.refl _ | refine LeL.cons ?_ ?_ | exact Le.ic rfl | exact Le.bc rfl | exact Le.i rfl | exact Le.b rfl | exact Le.sl rfl | exact Le.nils rfl (fun _ => ⟨trivial, trivial⟩) | refine Le.lst rfl (fun _ _ => rfl) (fun _ => ⟨trivial, trivial⟩) ?_ | refine Le.lst rfl (fun _ _ => rfl) (fun _ => ⟨fun _ => ⟨trivial, trivial⟩, trivial⟩) ?_ | exact Le.nils rfl (fun _ => ⟨fun _ => ⟨trivial, trivial⟩, trivial⟩) | refine Le.agg ?_ | refine Le.tup ?_ | exact Le.any _)), ls1⟩, ?_⟩
        cbv
        refine ⟨1, ⟨hm, by decide⟩, ?_⟩
        cbv
        rw [hr]
        exact ⟨.agg (by ((repeat' first | exact LeL.nil | exact Le.refl _ | refine LeL.cons ?_ ?_ | exact Le.ic rfl | exact Le.bc rfl | exact Le.i rfl | exact Le.b rfl | exact Le.sl rfl | exact Le.nils rfl (fun _ => ⟨trivial, trivial⟩) | refine Le.lst rfl (fun _ _ => rfl) (fun _ => ⟨trivial, trivial⟩) ?_ | refine Le.lst rfl (fun _ _ => rfl) (fun _ => ⟨fun _ => ⟨trivial, trivial⟩, trivial⟩) ?_ | exact Le.nils rfl (fun _ => ⟨fun _ => ⟨trivial, trivial⟩, trivial⟩) | refine Le.agg ?_ | refine Le.tup ?_ | exact Le.any _)))⟩
      have he : ¬ sndE x.w.l1 (x.a.d.take 6) = 0 := ne_of h.out
      have hr := step_0d (w := x.w) hk hn he
      cbv
      rw [hr]
      exact ⟨.agg (by ((repeat' first | exact LeL.nil | exact Le.refl _ | refine LeL.cons ?_ ?_ | exact Le.ic rfl | exact Le.bc rfl | exact Le.i rfl | exact Le.b rfl | exact Le.sl rfl | exact Le.nils rfl (fun _ => ⟨trivial, trivial⟩) | refine Le.lst rfl (fun _ _ => rfl) (fun _ => ⟨trivial, trivial⟩) ?_ | refine Le.lst rfl (fun _ _ => rfl) (fun _ => ⟨fun _ => ⟨trivial, trivial⟩, trivial⟩) ?_ | exact Le.nils rfl (fun _ => ⟨fun _ => ⟨trivial, trivial⟩, trivial⟩) | refine Le.agg ?_ | refine Le.tup ?_ | exact Le.any _)))⟩
    have m0 : ¬ x.a.kind % 6 = 0 := kind_ne k0 h.out
    cbv
    refine ⟨fun h => ?_, fun h => ?_⟩
    · have hk : x.a.kind % 6 = 1 := kind_of k0 h.out
      cbv
      refine ⟨1, ⟨hm, by decide⟩, ?_⟩
      cbv
      refine ⟨⟨by decide⟩, ⟨by decide⟩, ?_⟩
      cbv
      refine ⟨⟨x.w.l1, q4⟩, ⟨by ((repeat' first | exact LeL.nil | exact Le.refl _ | refine LeL.cons ?_ ?_ | exact Le.ic rfl | exact Le.bc rfl | exact Le.i rfl | exact Le.b rfl | exact Le.sl rfl | exact Le.nils rfl (fun _ => ⟨trivial, trivial⟩) | refine Le.lst rfl (fun _ _ => rfl) (fun _ => ⟨trivial, trivial⟩) ?_ | refine Le.lst rfl (fun _ _ => rfl) (fun _ => ⟨fun _ => ⟨trivial, trivial⟩, trivial⟩) ?_ | exact Le.nils rfl (fun _ => ⟨fun _ => ⟨trivial, trivial⟩, trivial⟩) | refine Le.agg ?_ | refine Le.tup ?_ | exact Le.any _)); exact .i hq, so1⟩, ?_⟩
      cbv
      refine ⟨fun h => ?_, fun h => ?_⟩
      · have he : pktE x.w.l1 q4 = 0 := eq_of h.out
        have hr := step_1c (w := x.w) hk hn (by rw [← hq4]; exact he)
        rw [← hq4] at hr
        cbv
        refine ⟨x.w.pool, ⟨by ((repeat' first | exact LeL.nil | exact Le.refl _ | refine LeL.cons ?_ ?_ | exact Le.ic rfl | exact Le.bc rfl | exact Le.i rfl | exact Le.b rfl | exact Le.sl rfl | exact Le.nils rfl (fun _ => ⟨trivial, trivial⟩) | refine Le.lst rfl (fun _ _ => rfl) (fun _ => ⟨trivial, trivial⟩) ?_ | refine Le.lst rfl (fun _ _ => rfl) (fun _ => ⟨fun _ => ⟨trivial, trivial⟩, trivial⟩) ?_ | exact Le.nils rfl (fun _ => ⟨fun _ => ⟨trivial, trivial⟩, trivial⟩) | refine Le.agg ?_ | refine Le.tup ?_ | exact Le.any _)), hb1⟩, ?_⟩
        cbv
        refine ⟨[⟨0, pktP x.w.l1 q4⟩], ⟨by cbv; ((repeat' first | exact LeL.nil | exact Le.refl _ | refine LeL.cons ?_ ?_ | exact Le.ic rfl | exact Le.bc rfl | exact Le.i rfl | exact Le.b rfl | exact Le.sl rfl | exact Le.nils rfl (fun _ => ⟨trivial, trivial⟩) | refine Le.lst rfl (fun _ _ => rfl) (fun _ => ⟨trivial, trivial⟩) ?_ | refine Le.lst rfl (fun _ _ => rfl) (fun _ => ⟨fun _ => ⟨trivial, trivial⟩, trivial⟩) ?_ | exact Le.nils rfl (fun _ => ⟨fun _ => ⟨trivial, trivial⟩, trivial⟩) | refine Le.agg ?_ | refine Le.tup ?_ | exact Le.any _)); refine Le.lst rfl (fun _ _ => rfl) (fun y => (cFl_ok y).1) ?_; ((repeat' first | exact LeL.nil | exact Le.refl _ | refine LeL.cons ?_ ?_ | exact Le.ic rfl | exact Le.bc rfl | exact Le.i rfl | exact Le.b rfl | exact Le.sl rfl | exact Le.nils rfl (fun _ => ⟨trivial, trivial⟩) | refine Le.lst rfl (fun _ _ => rfl) (fun _ => ⟨trivial, trivial⟩) ?_ | refine Le.lst rfl (fun _ _ => rfl) (fun _ => ⟨fun _ => ⟨trivial, trivial⟩, trivial⟩) ?_ | exact Le.nils rfl (fun _ => ⟨fun _ => ⟨trivial, trivial⟩, trivial⟩) | refine Le.agg ?_ | refine Le.tup ?_ | exact Le.any _)); exact .i hmo, hb2⟩, ?_⟩
        cbv
        rw [hr]
        exact ⟨.agg (by ((repeat' first | exact LeL.nil | exact Le.refl _ | refine LeL.cons ?_ ?_ | exact Le.ic rfl | exact Le.bc rfl | exact Le.i rfl | exact Le.b rfl | exact Le.sl rfl | exact Le.nils rfl (fun _ => ⟨trivial, trivial⟩) | refine Le.lst rfl (fun _ _ => rfl) (fun _ => ⟨trivial, trivial⟩) ?_ | refine Le.lst rfl (fun _ _ => rfl) (fun _ => ⟨fun _ => ⟨trivial, trivial⟩, trivial⟩) ?_ | exact Le.nils rfl (fun _ => ⟨fun _ => ⟨trivial, trivial⟩, trivial⟩) | refine Le.agg ?_ | refine Le.tup ?_ | exact Le.any _)))⟩
      have he : ¬ pktE x.w.l1 q4 = 0 := ne_of h.out
      have hr := step_1d (w := x.w) hk hn (by rw [← hq4]; exact he)
      cbv
      rw [hr]
      exact ⟨.agg (by ((repeat' first | exact LeL.nil | exact Le.refl _ | refine LeL.cons ?_ ?_ | exact Le.ic rfl | exact Le.bc rfl | exact Le.i rfl | exact Le.b rfl | exact Le.sl rfl | exact Le.nils rfl (fun _ => ⟨trivial, trivial⟩) | refine Le.lst rfl (fun _ _ => rfl) (fun _ => ⟨trivial, trivial⟩) ?_ | refine Le.lst rfl (fun _ _ => rfl) (fun _ => ⟨fun _ => ⟨trivial, trivial⟩, trivial⟩) ?_ | exact Le.nils rfl (fun _ => ⟨fun _ => ⟨trivial, trivial⟩, trivial⟩) | refine Le.agg ?_ | refine Le.tup ?_ | exact Le.any _)))⟩
    have m1 : ¬ x.a.kind % 6 = 1 := kind_ne k0 h.out
    cbv
    refine ⟨fun h => ?_, fun h => ?_⟩
    · have hk : x.a.kind % 6 = 2 := kind_of k0 h.out
      cbv
      refine ⟨x.w.pool, ⟨by ((repeat' first | exact LeL.nil | exact Le.refl _ | refine LeL.cons ?_ ?_ | exact Le.ic rfl | exact Le.bc rfl | exact Le.i rfl | exact Le.b rfl | exact Le.sl rfl | exact Le.nils rfl (fun _ => ⟨trivial, trivial⟩) | refine Le.lst rfl (fun _ _ => rfl) (fun _ => ⟨trivial, trivial⟩) ?_ | refine Le.lst rfl (fun _ _ => rfl) (fun _ => ⟨fun _ => ⟨trivial, trivial⟩, trivial⟩) ?_ | exact Le.nils rfl (fun _ => ⟨fun _ => ⟨trivial, trivial⟩, trivial⟩) | refine Le.agg ?_ | refine Le.tup ?_ | exact Le.any _)), hb1⟩, ?_⟩
      cbv
      refine ⟨1, ⟨hm, by decide⟩, ?_⟩
      cbv
      refine ⟨x.w.l1, ⟨by ((repeat' first | exact LeL.nil | exact Le.refl _ | refine LeL.cons ?_ ?_ | exact Le.ic rfl | exact Le.bc rfl | exact Le.i rfl | exact Le.b rfl | exact Le.sl rfl | exact Le.nils rfl (fun _ => ⟨trivial, trivial⟩) | refine Le.lst rfl (fun _ _ => rfl) (fun _ => ⟨trivial, trivial⟩) ?_ | refine Le.lst rfl (fun _ _ => rfl) (fun _ => ⟨fun _ => ⟨trivial, trivial⟩, trivial⟩) ?_ | exact Le.nils rfl (fun _ => ⟨fun _ => ⟨trivial, trivial⟩, trivial⟩) | refine Le.agg ?_ | refine Le.tup ?_ | exact Le.any _)), trivial⟩, ?_⟩
      cbv
      refine ⟨[⟨0, sig x.w.l1 (-1) []⟩], ⟨by cbv; ((repeat' first | exact LeL.nil | exact Le.refl _ | refine LeL.cons ?_ ?_ | exact Le.ic rfl | exact Le.bc rfl | exact Le.i rfl | exact Le.b rfl | exact Le.sl rfl | exact Le.nils rfl (fun _ => ⟨trivial, trivial⟩) | refine Le.lst rfl (fun _ _ => rfl) (fun _ => ⟨trivial, trivial⟩) ?_ | refine Le.lst rfl (fun _ _ => rfl) (fun _ => ⟨fun _ => ⟨trivial, trivial⟩, trivial⟩) ?_ | exact Le.nils rfl (fun _ => ⟨fun _ => ⟨trivial, trivial⟩, trivial⟩) | refine Le.agg ?_ | refine Le.tup ?_ | exact Le.any _)); refine Le.lst rfl (fun _ _ => rfl) (fun y => (cFl_ok y).1) ?_; ((repeat' first | exact LeL.nil | exact Le.refl _ | refine LeL.cons ?_ ?_ | exact Le.ic rfl | exact Le.bc rfl | exact Le.i rfl | exact Le.b rfl | exact Le.sl rfl | exact Le.nils rfl (fun _ => ⟨trivial, trivial⟩) | refine Le.lst rfl (fun _ _ => rfl) (fun _ => ⟨trivial, trivial⟩) ?_ | refine Le.lst rfl (fun _ _ => rfl) (fun _ => ⟨fun _ => ⟨trivial, trivial⟩, trivial⟩) ?_ | exact Le.nils rfl (fun _ => ⟨fun _ => ⟨trivial, trivial⟩, trivial⟩) | refine Le.agg ?_ | refine Le.tup ?_ | exact Le.any _)); exact .i hmo, hb2⟩, ?_⟩
      have hr := step_2c (w := x.w) hk hn
      cbv
      rw [hr]
      exact ⟨.agg (by ((repeat' first | exact LeL.nil | exact Le.refl _ | refine LeL.cons ?_ ?_ | exact Le.ic rfl | exact Le.bc rfl | exact Le.i rfl | exact Le.b rfl | exact Le.sl rfl | exact Le.nils rfl (fun _ => ⟨trivial, trivial⟩) | refine Le.lst rfl (fun _ _ => rfl) (fun _ => ⟨trivial, trivial⟩) ?_ | refine Le.lst rfl (fun _ _ => rfl) (fun _ => ⟨fun _ => ⟨trivial, trivial⟩, trivial⟩) ?_ | exact Le.nils rfl (fun _ => ⟨fun _ => ⟨trivial, trivial⟩, trivial⟩) | refine Le.agg ?_ | refine Le.tup ?_ | exact Le.any _)))⟩
    have m2 : ¬ x.a.kind % 6 = 2 := kind_ne k0 h.out
    cbv
    refine ⟨fun h => ?_, fun h => ?_⟩
    · have hk : x.a.kind % 6 = 3 := kind_of k0 h.out
      cbv
      refine ⟨fun h => ?_, fun h => ?_⟩
      · have hp : ltB 0 (x.w.pool.length : Int) = true := h.out
        have hjj := hj0 hp
        cbv
        obtain ⟨j0, j1, f, hf⟩ := hjj
        refine ⟨⟨by ((try simp only [Go.Vc.natc] at *); omega)⟩, f, ⟨by rw [show (IntKind.i64.wrap x.a.n).tmod (x.w.pool.length : Int) = j from hjt]; exact j0, by rw [show (IntKind.i64.wrap x.a.n).tmod (x.w.pool.length : Int) = j from hjt]; exact hf⟩, ?_⟩
        cbv
        rcases I.pool f (List.mem_of_getElem? hf) with q | q
        · have hpk := q.2
          have hto := q.1
          have hok : LP.Ok ⟨x.w.l1, f.p⟩ := I.ob.lp (by have := hpk.data I.da.sm; omega) (by have := hpk.a1; have := I.oa.g1; omega)
          refine ⟨1, ⟨hto, by decide⟩, ?_⟩
          cbv
          refine ⟨⟨x.w.l1, f.p⟩, ⟨by ((repeat' first | exact LeL.nil | exact Le.refl _ | refine LeL.cons ?_ ?_ | exact Le.ic rfl | exact Le.bc rfl | exact Le.i rfl | exact Le.b rfl | exact Le.sl rfl | exact Le.nils rfl (fun _ => ⟨trivial, trivial⟩) | refine Le.lst rfl (fun _ _ => rfl) (fun _ => ⟨trivial, trivial⟩) ?_ | refine Le.lst rfl (fun _ _ => rfl) (fun _ => ⟨fun _ => ⟨trivial, trivial⟩, trivial⟩) ?_ | exact Le.nils rfl (fun _ => ⟨fun _ => ⟨trivial, trivial⟩, trivial⟩) | refine Le.agg ?_ | refine Le.tup ?_ | exact Le.any _)), hok⟩, ?_⟩
          cbv
          refine ⟨fun h => ?_, fun h => ?_⟩
          · have he : recE x.w.l1 f.p = 0 := eq_of h.out
            have hr := step_3c (w := x.w) hk hj.symm hf hto he
            cbv
            refine ⟨1, ⟨hto, by decide⟩, ?_⟩
            cbv
            rw [hr]
            exact ⟨.agg (by ((repeat' first | exact LeL.nil | exact Le.refl _ | refine LeL.cons ?_ ?_ | exact Le.ic rfl | exact Le.bc rfl | exact Le.i rfl | exact Le.b rfl | exact Le.sl rfl | exact Le.nils rfl (fun _ => ⟨trivial, trivial⟩) | refine Le.lst rfl (fun _ _ => rfl) (fun _ => ⟨trivial, trivial⟩) ?_ | refine Le.lst rfl (fun _ _ => rfl) (fun _ => ⟨fun _ => ⟨trivial, trivial⟩, trivial⟩) ?_ | exact Le.nils rfl (fun _ => ⟨fun _ => ⟨trivial, trivial⟩, trivial⟩) | refine Le.agg ?_ | refine Le.tup ?_ | exact Le.any _)))⟩
          have he : ¬ recE x.w.l1 f.p = 0 := ne_of h.out
          have hr := step_3d (w := x.w) hk hj.symm hf hto he
          cbv
          rw [hr]
          exact ⟨.agg (by ((repeat' first | exact LeL.nil | exact Le.refl _ | refine LeL.cons ?_ ?_ | exact Le.ic rfl | exact Le.bc rfl | exact Le.i rfl | exact Le.b rfl | exact Le.sl rfl | exact Le.nils rfl (fun _ => ⟨trivial, trivial⟩) | refine Le.lst rfl (fun _ _ => rfl) (fun _ => ⟨trivial, trivial⟩) ?_ | refine Le.lst rfl (fun _ _ => rfl) (fun _ => ⟨fun _ => ⟨trivial, trivial⟩, trivial⟩) ?_ | exact Le.nils rfl (fun _ => ⟨fun _ => ⟨trivial, trivial⟩, trivial⟩) | refine Le.agg ?_ | refine Le.tup ?_ | exact Le.any _)))⟩
        · have hpk := q.2
          have hto := q.1
          have hok : LP.Ok ⟨x.w.l0, f.p⟩ := I.oa.lp (by have := hpk.data I.db.sm; omega) (by have := hpk.a1; have := I.ob.g1; omega)
          refine ⟨0, ⟨hto, by decide⟩, ?_⟩
          cbv
          refine ⟨⟨x.w.l0, f.p⟩, ⟨by ((repeat' first | exact LeL.nil | exact Le.refl _ | refine LeL.cons ?_ ?_ | exact Le.ic rfl | exact Le.bc rfl | exact Le.i rfl | exact Le.b rfl | exact Le.sl rfl | exact Le.nils rfl (fun _ => ⟨trivial, trivial⟩) | refine Le.lst rfl (fun _ _ => rfl) (fun _ => ⟨trivial, trivial⟩) ?_ | refine Le.lst rfl (fun _ _ => rfl) (fun _ => ⟨fun _ => ⟨trivial, trivial⟩, trivial⟩) ?_ | exact Le.nils rfl (fun _ => ⟨fun _ => ⟨trivial, trivial⟩, trivial⟩) | refine Le.agg ?_ | refine Le.tup ?_ | exact Le.any _)), hok⟩, ?_⟩
          cbv
          refine ⟨fun h => ?_, fun h => ?_⟩
          · have he : recE x.w.l0 f.p = 0 := eq_of h.out
            have hr := step_3a (w := x.w) hk hj.symm hf hto he
            cbv
            refine ⟨0, ⟨hto, by decide⟩, ?_⟩
            cbv
            rw [hr]
            exact ⟨.agg (by ((repeat' first | exact LeL.nil | exact Le.refl _ | refine LeL.cons ?_ ?_ | exact Le.ic rfl | exact Le.bc rfl | exact Le.i rfl | exact Le.b rfl | exact Le.sl rfl | exact Le.nils rfl (fun _ => ⟨trivial, trivial⟩) | refine Le.lst rfl (fun _ _ => rfl) (fun _ => ⟨trivial, trivial⟩) ?_ | refine Le.lst rfl (fun _ _ => rfl) (fun _ => ⟨fun _ => ⟨trivial, trivial⟩, trivial⟩) ?_ | exact Le.nils rfl (fun _ => ⟨fun _ => ⟨trivial, trivial⟩, trivial⟩) | refine Le.agg ?_ | refine Le.tup ?_ | exact Le.any _)))⟩
          have he : ¬ recE x.w.l0 f.p = 0 := ne_of h.out
          have hr := step_3b (w := x.w) hk hj.symm hf hto he
          cbv
          rw [hr]
          exact ⟨.agg (by ((repeat' first | exact LeL.nil | exact Le.refl _ | refine LeL.cons ?_ ?_ | exact Le.ic rfl | exact Le.bc rfl | exact Le.i rfl | exact Le.b rfl | exact Le.sl rfl | exact Le.nils rfl (fun _ => ⟨trivial, trivial⟩) | refine Le.lst rfl (fun _ _ => rfl) (fun _ => ⟨trivial, trivial⟩) ?_ | refine Le.lst rfl (fun _ _ => rfl) (fun _ => ⟨fun _ => ⟨trivial, trivial⟩, trivial⟩) ?_ | exact Le.nils rfl (fun _ => ⟨fun _ => ⟨trivial, trivial⟩, trivial⟩) | refine Le.agg ?_ | refine Le.tup ?_ | exact Le.any _)))⟩
      have hp := hp0 h.out
      have hr := step_3n (w := x.w) hk hp
      cbv
      rw [hr]
      exact ⟨.agg (by ((repeat' first | exact LeL.nil | exact Le.refl _ | refine LeL.cons ?_ ?_ | exact Le.ic rfl | exact Le.bc rfl | exact Le.i rfl | exact Le.b rfl | exact Le.sl rfl | exact Le.nils rfl (fun _ => ⟨trivial, trivial⟩) | refine Le.lst rfl (fun _ _ => rfl) (fun _ => ⟨trivial, trivial⟩) ?_ | refine Le.lst rfl (fun _ _ => rfl) (fun _ => ⟨fun _ => ⟨trivial, trivial⟩, trivial⟩) ?_ | exact Le.nils rfl (fun _ => ⟨fun _ => ⟨trivial, trivial⟩, trivial⟩) | refine Le.agg ?_ | refine Le.tup ?_ | exact Le.any _)))⟩
    have m3 : ¬ x.a.kind % 6 = 3 := kind_ne k0 h.out
    cbv
    refine ⟨fun h => ?_, fun h => ?_⟩
    · have hk : x.a.kind % 6 = 4 := kind_of k0 h.out
      cbv
      refine ⟨1, ⟨hm, by decide⟩, ?_⟩
      cbv
      refine ⟨x.w.l1, ⟨by ((repeat' first | exact LeL.nil | exact Le.refl _ | refine LeL.cons ?_ ?_ | exact Le.ic rfl | exact Le.bc rfl | exact Le.i rfl | exact Le.b rfl | exact Le.sl rfl | exact Le.nils rfl (fun _ => ⟨trivial, trivial⟩) | refine Le.lst rfl (fun _ _ => rfl) (fun _ => ⟨trivial, trivial⟩) ?_ | refine Le.lst rfl (fun _ _ => rfl) (fun _ => ⟨fun _ => ⟨trivial, trivial⟩, trivial⟩) ?_ | exact Le.nils rfl (fun _ => ⟨fun _ => ⟨trivial, trivial⟩, trivial⟩) | refine Le.agg ?_ | refine Le.tup ?_ | exact Le.any _)), so1, si1⟩, ?_⟩
      cbv
      refine ⟨fun h => ?_, fun h => ?_⟩
      · have he : takE x.w.l1 = 0 := eq_of h.out
        have hr := step_4c (w := x.w) hk hn he
        cbv
        refine ⟨1, ⟨hm, by decide⟩, ?_⟩
        cbv
        refine ⟨1, ⟨hm, by decide⟩, ?_⟩
        cbv
        refine ⟨⟨x.w.g1, takD x.w.l1⟩, ⟨by ((repeat' first | exact LeL.nil | exact Le.refl _ | refine LeL.cons ?_ ?_ | exact Le.ic rfl | exact Le.bc rfl | exact Le.i rfl | exact Le.b rfl | exact Le.sl rfl | exact Le.nils rfl (fun _ => ⟨trivial, trivial⟩) | refine Le.lst rfl (fun _ _ => rfl) (fun _ => ⟨trivial, trivial⟩) ?_ | refine Le.lst rfl (fun _ _ => rfl) (fun _ => ⟨fun _ => ⟨trivial, trivial⟩, trivial⟩) ?_ | exact Le.nils rfl (fun _ => ⟨fun _ => ⟨trivial, trivial⟩, trivial⟩) | refine Le.agg ?_ | refine Le.tup ?_ | exact Le.any _)), lg1⟩, ?_⟩
        cbv
        refine ⟨1, ⟨hm, by decide⟩, ?_⟩
        cbv
        rw [hr]
        exact ⟨.agg (by ((repeat' first | exact LeL.nil | exact Le.refl _ | refine LeL.cons ?_ ?_ | exact Le.ic rfl | exact Le.bc rfl | exact Le.i rfl | exact Le.b rfl | exact Le.sl rfl | exact Le.nils rfl (fun _ => ⟨trivial, trivial⟩) | refine Le.lst rfl (fun _ _ => rfl) (fun _ => ⟨trivial, trivial⟩) ?_ | refine Le.lst rfl (fun _ _ => rfl) (fun _ => ⟨fun _ => ⟨trivial, trivial⟩, trivial⟩) ?_ | exact Le.nils rfl (fun _ => ⟨fun _ => ⟨trivial, trivial⟩, trivial⟩) | refine Le.agg ?_ | refine Le.tup ?_ | exact Le.any _)))⟩
      have he : ¬ takE x.w.l1 = 0 := ne_of h.out
      have hr := step_4d (w := x.w) hk hn he
      cbv
      rw [hr]
      exact ⟨.agg (by ((repeat' first | exact LeL.nil | exact Le.refl _ | refine LeL.cons ?_ ?_ | exact Le.ic rfl | exact Le.bc rfl | exact Le.i rfl | exact Le.b rfl | exact Le.sl rfl | exact Le.nils rfl (fun _ => ⟨trivial, trivial⟩) | refine Le.lst rfl (fun _ _ => rfl) (fun _ => ⟨trivial, trivial⟩) ?_ | refine Le.lst rfl (fun _ _ => rfl) (fun _ => ⟨fun _ => ⟨trivial, trivial⟩, trivial⟩) ?_ | exact Le.nils rfl (fun _ => ⟨fun _ => ⟨trivial, trivial⟩, trivial⟩) | refine Le.agg ?_ | refine Le.tup ?_ | exact Le.any _)))⟩
    have m4 : ¬ x.a.kind % 6 = 4 := kind_ne k0 h.out
    cbv
    refine ⟨fun h => ?_, fun h => ?_⟩
    · have hk : x.a.kind % 6 = 5 := by omega
      have hp : ltB 0 (x.w.pool.length : Int) = true := h.out
      have hjj := hj0 hp
      have hr := step_5a (w := x.w) hk
      rw [← hj] at hr
      cbv
      obtain ⟨j0, j1, f, hf⟩ := hjj
      refine ⟨⟨by ((try simp only [Go.Vc.natc] at *); omega)⟩, ⟨x.w.pool, j⟩, ⟨by ((repeat' first | exact LeL.nil | exact Le.refl _ | refine LeL.cons ?_ ?_ | exact Le.ic rfl | exact Le.bc rfl | exact Le.i rfl | exact Le.b rfl | exact Le.sl rfl | exact Le.nils rfl (fun _ => ⟨trivial, trivial⟩) | refine Le.lst rfl (fun _ _ => rfl) (fun _ => ⟨trivial, trivial⟩) ?_ | refine Le.lst rfl (fun _ _ => rfl) (fun _ => ⟨fun _ => ⟨trivial, trivial⟩, trivial⟩) ?_ | exact Le.nils rfl (fun _ => ⟨fun _ => ⟨trivial, trivial⟩, trivial⟩) | refine Le.agg ?_ | refine Le.tup ?_ | exact Le.any _)); exact .i hjt, lp', j0, j1⟩, ?_⟩
      cbv
      rw [hr]
      exact ⟨.agg (by ((repeat' first | exact LeL.nil | exact Le.refl _ | refine LeL.cons ?_ ?_ | exact Le.ic rfl | exact Le.bc rfl | exact Le.i rfl | exact Le.b rfl | exact Le.sl rfl | exact Le.nils rfl (fun _ => ⟨trivial, trivial⟩) | refine Le.lst rfl (fun _ _ => rfl) (fun _ => ⟨trivial, trivial⟩) ?_ | refine Le.lst rfl (fun _ _ => rfl) (fun _ => ⟨fun _ => ⟨trivial, trivial⟩, trivial⟩) ?_ | exact Le.nils rfl (fun _ => ⟨fun _ => ⟨trivial, trivial⟩, trivial⟩) | refine Le.agg ?_ | refine Le.tup ?_ | exact Le.any _)))⟩
    have hk : x.a.kind % 6 = 5 := by omega
    have hp := hp0 h.out
    have hr := step_5n (w := x.w) hk hp
    cbv
    rw [hr]
    exact ⟨.agg (by ((repeat' first | exact LeL.nil | exact Le.refl _ | refine LeL.cons ?_ ?_ | exact Le.ic rfl | exact Le.bc rfl | exact Le.i rfl | exact Le.b rfl | exact Le.sl rfl | exact Le.nils rfl (fun _ => ⟨trivial, trivial⟩) | refine Le.lst rfl (fun _ _ => rfl) (fun _ => ⟨trivial, trivial⟩) ?_ | refine Le.lst rfl (fun _ _ => rfl) (fun _ => ⟨fun _ => ⟨trivial, trivial⟩, trivial⟩) ?_ | exact Le.nils rfl (fun _ => ⟨fun _ => ⟨trivial, trivial⟩, trivial⟩) | refine Le.agg ?_ | refine Le.tup ?_ | exact Le.any _)))⟩
end Go.Proofs.Tran
