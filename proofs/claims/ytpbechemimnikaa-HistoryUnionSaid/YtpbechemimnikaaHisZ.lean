/-
  The histories' functions: unions, the law
-/
import Derived.Test.YtpbechemimnikaaHisY
set_option linter.unusedVariables false
set_option linter.unusedSimpArgs false
set_option maxRecDepth 10000
set_option maxHeartbeats 32000000
namespace Go.Proofs.Hist
open Go Go.Vc

variable {h g : List Cm}
noncomputable def sp26 : List (Nat × Vc.Spec) := (25, UniAS) :: (26, ClashS) :: sp25
theorem sp26_ok : All (fun f S => SpecOk (PP ()) f S) sp26 := ⟨UniA_ok, Clash_ok, sp25_ok⟩

noncomputable def ctx26 : Ctx := { tt := tt, el := el, sp := fun f => tab sp26 f, inl := fun f => tab inl2 f }
theorem ctx26_ok : ctx26.Ok (PP ()) := ⟨tt_ok, el_ok ctx26 rfl, tab_all sp26_ok, fun f fn h => (tab_all inl2_ok f fn h).1, mixed⟩
theorem ctx26_inl : InlOk ctx26 := fun f fn h => (tab_all inl2_ok f fn h).2

theorem Good.uniq (G : Good dgW h) : ∀ c ∈ h, ∀ d ∈ h, c.id = d.id → c = d := by
  induction G with
  | nil => intro c hc; cases hc
  | snoc G h1 h2 h3 h4 h5 ih =>
    rename_i k e
    intro c hc d hd he
    have no : ∀ c ∈ k, c.id ≠ e.id := fun c hc q => by
      have : has k e.id = true := has_iff.2 ⟨c, hc, q⟩
      rw [h1] at this; cases this
    rcases List.mem_append.1 hc with hc | hc <;> rcases List.mem_append.1 hd with hd | hd
    · exact ih c hc d hd he
    · exact absurd (he.trans (by rw [List.mem_singleton.1 hd])) (no c hc)
    · exact absurd (he.symm.trans (by rw [List.mem_singleton.1 hc])) (no d hd)
    · rw [List.mem_singleton.1 hc, List.mem_singleton.1 hd]
theorem Cm.same_comm (a b : Cm) : a.same b = b.same a := by
  rw [Bool.eq_iff_iff, Cm.same_iff, Cm.same_iff]
  exact eq_comm
theorem clash_comm (h g : List Cm) : clashM h g = clashM g h := by
  unfold clashM
  rw [Bool.eq_iff_iff]
  simp only [List.any_eq_true]
  constructor
  · rintro ⟨c, hc, d, hd, e⟩
    exact ⟨d, hd, c, hc, by rw [Cm.same_comm, Bool.beq_comm]; exact e⟩
  · rintro ⟨c, hc, d, hd, e⟩
    exact ⟨d, hd, c, hc, by rw [Cm.same_comm, Bool.beq_comm]; exact e⟩
theorem clash_odd (G : Good dgW h) (g : List Cm) : g.any (oddB h) = clashM h g := by
  unfold clashM
  rw [Bool.eq_iff_iff]
  simp only [List.any_eq_true]
  constructor
  · rintro ⟨d, hd, e⟩
    cases q : has h d.id with
    | false => rw [oddB_no q] at e; cases e
    | true =>
      obtain ⟨o, ho, hoi⟩ := idx_get q
      rw [oddB_at ho, q] at e
      exact ⟨o, List.mem_of_getElem? ho, d, hd, by rw [Bool.and_eq_true]; exact ⟨by simp [hoi], e⟩⟩
  · rintro ⟨c, hc, d, hd, e⟩
    rw [Bool.and_eq_true] at e
    have hid : c.id = d.id := by simpa using e.1
    have q : has h d.id = true := has_iff.2 ⟨c, hc, hid⟩
    obtain ⟨o, ho, hoi⟩ := idx_get q
    have := G.uniq c hc o (List.mem_of_getElem? ho) (hid.trans hoi.symm)
    refine ⟨d, hd, ?_⟩
    rw [oddB_at ho, q, ← this, e.2]; rfl
theorem uniM_clash (G : Good dgW h) (e : clashM h g = true) : (uniM h g).e = 190 := by
  unfold uniM
  rw [if_pos (by rw [clash_odd G]; exact e)]
theorem uniM_free (G : Good dgW h) (e : clashM h g = false) (hl : h.length + g.length ≤ 500) : uniM h g = ⟨unionM h g, 0, 0⟩ := by
  have := union_lt (h := h) (g := g) g.length
  rw [List.take_length] at this
  unfold uniM
  rw [if_neg (by rw [clash_odd G, e]; simp), if_neg (by omega)]
theorem anc_union (G : Good dgW h) (K : Good dgW g) {a : Int} (ha : has h a = true) : ancS (unionM h g) a = ancS h a := by
  have U := union_good G K
  rw [ancS_yes G ha, ancS_yes U (by rw [has_union, ha]; rfl)]
  have : anc (unionM h g) a = anc h a := anc_append _ U ha
  rw [this]
theorem hs_union (H : Hs h) (K : Hs g) (hl : h.length + g.length ≤ 500) : Hv (unionM h g) := by
  have := union_lt (h := h) (g := g) g.length
  rw [List.take_length] at this
  refine ⟨by omega, fun c hc => ?_⟩
  rcases List.mem_append.1 hc with hc | hc
  · exact H.m c hc
  · exact K.m c (List.mem_filter.1 hc).1
theorem idx_ge {a : Int} (e : has h a = true) : ltB (idx h a) 0 = false ∧ leB 0 (idx h a) = true := by
  have := has_lt e
  exact ⟨by simp [ltB]; omega, by simp [leB]; omega⟩
theorem anc_has (G : Good dgW h) (a : Int) : eqB (ancS h a).2 0 = has h a := by
  cases e : has h a with
  | true => rw [ancS_yes G e]; rfl
  | false => rw [ancS_no G e]; rfl
structure LMK where
  l : List B4
  m : List B4
  a : Int
  b : Int
structure LMKok (x : LMK) : Prop where
  l : ∀ b ∈ x.l, B4.ok b
  m : ∀ b ∈ x.m, B4.ok b
  a : 0 ≤ x.a ∧ x.a < 256
  b : 0 ≤ x.b ∧ x.b < 256
def unlS : Vc.Spec where
  α := LMK
  args x := [.sl 4 cB4 (fun _ => x.l), .sl 4 cB4 (fun _ => x.m), .agg [.i .u8 (fun _ => x.a), .i .u8 (fun _ => x.b)]]
  pre x := LMKok x
  res x := .bc true
theorem Unl_ok : SpecOk (PP ()) 8 unlS := by
  refine spec_of_vc (lv := 2) ctx26_ok ctx26_inl (fnOk_of Try.func8 (by kernel_rfl)) (by kernel_rfl) (fun a => by simp [unlS, LFL, LF, cU64, cCm, Cm.cells, cB4]) (fun a => by simp [unlS, LFL, LF, cU64, cCm, Cm.cells, cB4]) ?_
  intro x hx
  have hl0 : ∀ b ∈ x.l, B4.ok b := hx.l
  have hm0 : ∀ b ∈ x.m, B4.ok b := hx.m
  have ka := hx.a
  have kb := hx.b
  refine ⟨?_⟩
  cbv
  refine ⟨(), ⟨by ((repeat' first | exact LeL.nil | exact Le.refl _ | refine LeL.cons ?_ ?_ | exact Le.ic rfl | exact Le.bc rfl | exact Le.i rfl | exact Le.b rfl | exact Le.sl rfl | exact Le.mp rfl | exact Le.csl rfl | exact Le.cslsl rfl | exact Le.nils rfl (fun _ => ⟨trivial, trivial⟩) | refine Le.lst rfl (fun _ _ => rfl) (fun _ => ⟨trivial, trivial⟩) ?_ | refine Le.lst rfl (fun _ _ => rfl) (fun _ => ⟨fun _ => ⟨trivial, trivial⟩, trivial⟩) ?_ | exact Le.nils rfl (fun _ => ⟨fun _ => ⟨trivial, trivial⟩, trivial⟩) | exact Le.nils rfl (fun x => (cCm_ok x).1) | refine Le.lst rfl (fun _ _ => rfl) (fun x => (cCm_ok x).1) ?_ | refine Le.agg ?_ | refine Le.tup ?_ | refine Le.fn ?_ ?_ | refine Le.spt ?_ | exact Le.any _)), trivial⟩, ?_⟩
  cbv
  refine ⟨fun h2 => ?_, fun h2 => ?_⟩
  · cbv
    exact ⟨.refl _⟩
  have h2 := h2.out
  have hlen : x.l.length ≤ 16 := by simp [ltB, leB] at h2; ((try simp only [Go.Vc.natc] at *); omega)
  cbv
  refine ⟨fun h3 => ?_, fun h3 => ?_⟩
  · cbv
    exact ⟨.refl _⟩
  have h3 := h3.out
  have hlenm : x.m.length ≤ 8 := by simp [ltB, leB] at h3; ((try simp only [Go.Vc.natc] at *); omega)
  obtain ⟨hB, G0, hn0, H0⟩ := grown_facts (by omega) hl0
  obtain ⟨h, hh⟩ : ∃ h, h = grown [] x.l := ⟨_, rfl⟩
  rw [← hh] at G0 hn0 H0
  have G := G0
  have H := H0
  have hle : h.length < 2305843009213693952 := by omega
  have hwl : IntKind.i64.wrap (((grown [] x.l).length : Int) + 1) = ((h.length + 1 : Nat) : Int) := by rw [← hh, w64 (by omega) (by omega)]; rfl
  have hwn : ¬ IntKind.i64.wrap (((grown [] x.l).length : Int) + 1) = 0 := by rw [hwl]; omega
  obtain ⟨j, hj⟩ : ∃ j, j = x.a.toNat % (h.length + 1) := ⟨_, rfl⟩
  have hjl : j ≤ h.length := by have : x.a.toNat % (h.length + 1) < h.length + 1 := Nat.mod_lt _ (Nat.succ_pos _); omega
  have hix : (IntKind.i64.wrap x.a).tmod (IntKind.i64.wrap (((grown [] x.l).length : Int) + 1)) = (j : Int) := by rw [hwl, hj]; exact pick_ix ka.1 ka.2
  obtain ⟨g0, hg0⟩ : ∃ g, g = h.take j := ⟨_, rfl⟩
  have hsl : 0 ≤ (0 : Int) ∧ (0 : Int) ≤ (IntKind.i64.wrap x.a).tmod (IntKind.i64.wrap (((grown [] x.l).length : Int) + 1)) ∧ (IntKind.i64.wrap x.a).tmod (IntKind.i64.wrap (((grown [] x.l).length : Int) + 1)) ≤ ((grown [] x.l).length : Int) := by
    rw [hix, ← hh]; omega
  have hsl2 : List.drop ((0 : Int)).toNat (List.take ((IntKind.i64.wrap x.a).tmod (IntKind.i64.wrap (((grown [] x.l).length : Int) + 1))).toNat (grown [] x.l)) = g0 := by
    rw [hix, ← hh, hg0]; simp
  have Gg0 : Good dgW g0 := by
    refine Good.front (h := g0) (e := h.drop j) ?_
    rw [hg0, List.take_append_drop]; exact G
  have hg0l : g0.length ≤ 16 := by rw [hg0, List.length_take]; omega
  have hBg : HBok ⟨g0, x.m⟩ := ⟨Gg0, by show g0.length + x.m.length ≤ 500; omega, hm0⟩
  obtain ⟨g, hg⟩ : ∃ g, g = grown g0 x.m := ⟨_, rfl⟩
  have hgg := grow_good noId (mkB x.m) x.m.length 0 Gg0
  have K : Good dgW g := by rw [hg]; exact hgg.1
  have hgl : g.length ≤ 24 := by have := hgg.2; rw [hg]; unfold grown; omega
  have Hg : Hs g := K.hs (by omega)
  have hgle : g.length < 2305843009213693952 := by omega
  cbv
  refine ⟨⟨[], x.l⟩, ⟨by ((repeat' first | exact LeL.nil | exact Le.refl _ | refine LeL.cons ?_ ?_ | exact Le.ic rfl | exact Le.bc rfl | exact Le.i rfl | exact Le.b rfl | exact Le.sl rfl | exact Le.mp rfl | exact Le.csl rfl | exact Le.cslsl rfl | exact Le.nils rfl (fun _ => ⟨trivial, trivial⟩) | refine Le.lst rfl (fun _ _ => rfl) (fun _ => ⟨trivial, trivial⟩) ?_ | refine Le.lst rfl (fun _ _ => rfl) (fun _ => ⟨fun _ => ⟨trivial, trivial⟩, trivial⟩) ?_ | exact Le.nils rfl (fun _ => ⟨fun _ => ⟨trivial, trivial⟩, trivial⟩) | exact Le.nils rfl (fun x => (cCm_ok x).1) | refine Le.lst rfl (fun _ _ => rfl) (fun x => (cCm_ok x).1) ?_ | refine Le.agg ?_ | refine Le.tup ?_ | refine Le.fn ?_ ?_ | refine Le.spt ?_ | exact Le.any _)), hB⟩, ?_⟩
  cbv
  refine ⟨⟨hwn⟩, ?_⟩
  refine ⟨⟨hsl⟩, ?_⟩
  refine ⟨⟨g0, x.m⟩, ⟨.cons (.sl hsl2) (.cons (.sl rfl) .nil), hBg⟩, ?_⟩
  cbv
  refine ⟨⟨h, g⟩, ⟨.cons (.sl hh.symm) (.cons (.sl hg.symm) .nil), ⟨H, Hg⟩⟩, ?_⟩
  cbv
  refine ⟨⟨g, h⟩, ⟨.cons (.sl hg.symm) (.cons (.sl hh.symm) .nil), ⟨Hg, H⟩⟩, ?_⟩
  cbv
  refine ⟨⟨h, g⟩, ⟨.cons (.sl hh.symm) (.cons (.sl hg.symm) .nil), ⟨H, Hg⟩⟩, ?_⟩
  cbv
  refine ⟨fun h4 => ?_, fun h4 => ?_⟩
  · have h4 : clashM h g = true := h4.out
    have e1 := uniM_clash G h4
    have e2 := uniM_clash K ((clash_comm h g).symm.trans h4)
    cbv
    refine ⟨fun h0 => ?_, fun h0 => ?_⟩
    rotate_left
    · cbv
      exfalso
      have h0 : eqB (uniM h g).e 190 = false := h0.out
      rw [e1] at h0; cases h0
    cbv
    refine ⟨fun h0 => ?_, fun h0 => ?_⟩
    rotate_left
    · cbv
      exfalso
      have h0 : eqB (uniM g h).e 190 = false := h0.out
      rw [e2] at h0; cases h0
    cbv

    exact ⟨.refl _⟩
  have h4 : clashM h g = false := h4.out
  have e1 := uniM_free G h4 (by omega)
  have e2 := uniM_free K ((clash_comm h g).symm.trans h4) (by omega)
  obtain ⟨u, hu⟩ : ∃ u, u = unionM h g := ⟨_, rfl⟩
  obtain ⟨v, hv⟩ : ∃ v, v = unionM g h := ⟨_, rfl⟩
  have hvu : Hv u := by rw [hu]; exact hs_union H Hg (by omega)
  have hvv : Hv v := by rw [hv]; exact hs_union Hg H (by omega)
  have oku : okC u = 0 := by rw [hu]; exact okC_yes ((okH_good _).2 (union_good G K))
  have okv : okC v = 0 := by rw [hv]; exact okC_yes ((okH_good _).2 (union_good K G))
  have hul : u.length < 2305843009213693952 := by have := hvu.n; omega
  have hvl : v.length < 2305843009213693952 := by have := hvv.n; omega
  have hl12 : (!eqB ((uniM h g).h.length : Int) ((uniM g h).h.length : Int)) = false := by rw [e1, e2]; simp [eqB, union_len G K]
  have ue : (uniM h g).h = u := by rw [e1, hu]
  have ve : (uniM g h).h = v := by rw [e2, hv]
  cbv
  refine ⟨fun h0 => ?_, fun h0 => ?_⟩
  · cbv
    exfalso
    have h0 : (!eqB (uniM h g).e 0) = true := h0.out
    rw [e1] at h0; cases h0
  cbv
  refine ⟨fun h0 => ?_, fun h0 => ?_⟩
  · cbv
    exfalso
    have h0 : (!eqB (uniM g h).e 0) = true := h0.out
    rw [e2] at h0; cases h0
  cbv
  refine ⟨fun h0 => ?_, fun h0 => ?_⟩
  · cbv
    exfalso
    have h0 : (!eqB ((uniM h g).h.length : Int) ((uniM g h).h.length : Int)) = true := h0.out
    rw [hl12] at h0; cases h0
  cbv

  refine ⟨u, ⟨.cons (.sl ue) .nil, hvu⟩, ?_⟩
  cbv
  refine ⟨fun h0 => ?_, fun h0 => ?_⟩
  · cbv
    exfalso
    have h0 : (!eqB (okC u) 0) = true := h0.out
    rw [oku] at h0; cases h0
  cbv
  refine ⟨v, ⟨.cons (.sl ve) .nil, hvv⟩, ?_⟩
  cbv
  refine ⟨fun h0 => ?_, fun h0 => ?_⟩
  · cbv
    exfalso
    have h0 : (!eqB (okC v) 0) = true := h0.out
    rw [okv] at h0; cases h0
  cbv
  refine ⟨u, ⟨.cons (.sl ue) .nil, hvu⟩, ?_⟩
  cbv
  refine ⟨fun h0 => ?_, fun h0 => ?_⟩
  · cbv
    exfalso
    have h0 : (!eqB (okC u) 0) = true := h0.out
    rw [oku] at h0; cases h0
  cbv
  refine ⟨v, ⟨.cons (.sl ve) .nil, hvv⟩, ?_⟩
  cbv
  refine ⟨fun h0 => ?_, fun h0 => ?_⟩
  · cbv
    exfalso
    have h0 : (!eqB (okC v) 0) = true := h0.out
    rw [okv] at h0; cases h0
  cbv
  refine Sat.loopD ctx26_ok ctx26_inl (lv := 2) (by kernel_rfl) 3 12 [] (fun i : Nat => [(8, .sl 4 cCm (fun _ => h)), (9, .sl 4 cCm (fun _ => g)), (12, .i .i64 (fun _ => (i : Int)))]) (fun i => [(1, .fix 46 [.sl 4 cCm (fun _ => u), .i .u64 (fun _ => 0), .i .i64 (fun _ => 0)]), (2, .fix 46 [.sl 4 cCm (fun _ => v), .i .u64 (fun _ => 0), .i .i64 (fun _ => 0)])])
    (fun i => i ≤ u.length) (fun i => u.length - i) 0 (by ((try cbv) <;> (repeat' (first | with_reducible exact trivial | with_reducible refine And.intro ?_ ?_)) <;> (try first | exact SlotLe.refl _ | exact SlotLe.dyn rfl | exact SlotLe.map rfl | exact SlotLe.iter rfl rfl (.inl rfl) | exact SlotLe.iter rfl rfl (.inr rfl) | refine SlotLe.fix ?_ | refine SlotLe.dyn ?_) <;> ((repeat' first | exact LeL.nil | exact Le.refl _ | refine LeL.cons ?_ ?_ | exact Le.ic rfl | exact Le.bc rfl | exact Le.i rfl | exact Le.b rfl | exact Le.sl rfl | exact Le.mp rfl | exact Le.csl rfl | exact Le.cslsl rfl | exact Le.nils rfl (fun _ => ⟨trivial, trivial⟩) | refine Le.lst rfl (fun _ _ => rfl) (fun _ => ⟨trivial, trivial⟩) ?_ | refine Le.lst rfl (fun _ _ => rfl) (fun _ => ⟨fun _ => ⟨trivial, trivial⟩, trivial⟩) ?_ | exact Le.nils rfl (fun _ => ⟨fun _ => ⟨trivial, trivial⟩, trivial⟩) | exact Le.nils rfl (fun x => (cCm_ok x).1) | refine Le.lst rfl (fun _ _ => rfl) (fun x => (cCm_ok x).1) ?_ | refine Le.agg ?_ | refine Le.tup ?_ | refine Le.fn ?_ ?_ | refine Le.spt ?_ | exact Le.any _))) <;> first | exact .sl hh.symm | exact .sl hg.symm) (by ((try cbv) <;> (repeat' (first | with_reducible exact trivial | with_reducible refine And.intro ?_ ?_)) <;> (try first | exact SlotLe.refl _ | exact SlotLe.dyn rfl | exact SlotLe.map rfl | exact SlotLe.iter rfl rfl (.inl rfl) | exact SlotLe.iter rfl rfl (.inr rfl) | refine SlotLe.fix ?_ | refine SlotLe.dyn ?_) <;> ((repeat' first | exact LeL.nil | exact Le.refl _ | refine LeL.cons ?_ ?_ | exact Le.ic rfl | exact Le.bc rfl | exact Le.i rfl | exact Le.b rfl | exact Le.sl rfl | exact Le.mp rfl | exact Le.csl rfl | exact Le.cslsl rfl | exact Le.nils rfl (fun _ => ⟨trivial, trivial⟩) | refine Le.lst rfl (fun _ _ => rfl) (fun _ => ⟨trivial, trivial⟩) ?_ | refine Le.lst rfl (fun _ _ => rfl) (fun _ => ⟨fun _ => ⟨trivial, trivial⟩, trivial⟩) ?_ | exact Le.nils rfl (fun _ => ⟨fun _ => ⟨trivial, trivial⟩, trivial⟩) | exact Le.nils rfl (fun x => (cCm_ok x).1) | refine Le.lst rfl (fun _ _ => rfl) (fun x => (cCm_ok x).1) ?_ | refine Le.agg ?_ | refine Le.tup ?_ | refine Le.fn ?_ ?_ | refine Le.spt ?_ | exact Le.any _))) <;> first | exact .sl ue | exact .sl ve | exact .i (by rw [e1]) | exact .i (by rw [e2])) (by omega) ?_
  intro i hi
  cbv
  refine ⟨fun h5 => ?_, fun h5 => ?_⟩
  · have h5 := h5.out
    have hlt : i < u.length := by simp [ltB] at h5; ((try simp only [Go.Vc.natc] at *); omega)
    obtain ⟨va, hva⟩ : ∃ v, u[i]? = some v := ⟨_, List.getElem?_eq_getElem hlt⟩
    have hi2 : 0 ≤ (i : Int) := Int.natCast_nonneg i
    have fu : (has h va.id || has g va.id) = true := by
      have : has u va.id = true := has_iff.2 ⟨va, List.mem_of_getElem? hva, rfl⟩
      rw [hu, has_union] at this
      exact this
    have fv : has v va.id = true := by rw [hv, has_union, Bool.or_comm]; exact fu
    cbv
    refine ⟨va, ⟨hi2, hva⟩, ?_⟩
    cbv
    refine ⟨⟨h, va.id⟩, ⟨by ((repeat' first | exact LeL.nil | exact Le.refl _ | refine LeL.cons ?_ ?_ | exact Le.ic rfl | exact Le.bc rfl | exact Le.i rfl | exact Le.b rfl | exact Le.sl rfl | exact Le.mp rfl | exact Le.csl rfl | exact Le.cslsl rfl | exact Le.nils rfl (fun _ => ⟨trivial, trivial⟩) | refine Le.lst rfl (fun _ _ => rfl) (fun _ => ⟨trivial, trivial⟩) ?_ | refine Le.lst rfl (fun _ _ => rfl) (fun _ => ⟨fun _ => ⟨trivial, trivial⟩, trivial⟩) ?_ | exact Le.nils rfl (fun _ => ⟨fun _ => ⟨trivial, trivial⟩, trivial⟩) | exact Le.nils rfl (fun x => (cCm_ok x).1) | refine Le.lst rfl (fun _ _ => rfl) (fun x => (cCm_ok x).1) ?_ | refine Le.agg ?_ | refine Le.tup ?_ | refine Le.fn ?_ ?_ | refine Le.spt ?_ | exact Le.any _)), hle⟩, ?_⟩
    cbv
    refine ⟨fun h6 => ?_, fun h6 => ?_⟩
    · have f6 : has h va.id = false := idx_lt h6.out
      have f7 : has g va.id = true := by rw [f6] at fu; exact fu
      cbv
      refine ⟨⟨g, va.id⟩, ⟨by ((repeat' first | exact LeL.nil | exact Le.refl _ | refine LeL.cons ?_ ?_ | exact Le.ic rfl | exact Le.bc rfl | exact Le.i rfl | exact Le.b rfl | exact Le.sl rfl | exact Le.mp rfl | exact Le.csl rfl | exact Le.cslsl rfl | exact Le.nils rfl (fun _ => ⟨trivial, trivial⟩) | refine Le.lst rfl (fun _ _ => rfl) (fun _ => ⟨trivial, trivial⟩) ?_ | refine Le.lst rfl (fun _ _ => rfl) (fun _ => ⟨fun _ => ⟨trivial, trivial⟩, trivial⟩) ?_ | exact Le.nils rfl (fun _ => ⟨fun _ => ⟨trivial, trivial⟩, trivial⟩) | exact Le.nils rfl (fun x => (cCm_ok x).1) | refine Le.lst rfl (fun _ _ => rfl) (fun x => (cCm_ok x).1) ?_ | refine Le.agg ?_ | refine Le.tup ?_ | refine Le.fn ?_ ?_ | refine Le.spt ?_ | exact Le.any _)), hgle⟩, ?_⟩
      cbv
      refine ⟨fun h0 => ?_, fun h0 => ?_⟩
      · cbv
        exfalso
        have h0 : ltB (idx g va.id) 0 = true := h0.out
        rw [(idx_ge f7).1] at h0; cases h0
      cbv
      refine ⟨⟨v, va.id⟩, ⟨by ((repeat' first | exact LeL.nil | exact Le.refl _ | refine LeL.cons ?_ ?_ | exact Le.ic rfl | exact Le.bc rfl | exact Le.i rfl | exact Le.b rfl | exact Le.sl rfl | exact Le.mp rfl | exact Le.csl rfl | exact Le.cslsl rfl | exact Le.nils rfl (fun _ => ⟨trivial, trivial⟩) | refine Le.lst rfl (fun _ _ => rfl) (fun _ => ⟨trivial, trivial⟩) ?_ | refine Le.lst rfl (fun _ _ => rfl) (fun _ => ⟨fun _ => ⟨trivial, trivial⟩, trivial⟩) ?_ | exact Le.nils rfl (fun _ => ⟨fun _ => ⟨trivial, trivial⟩, trivial⟩) | exact Le.nils rfl (fun x => (cCm_ok x).1) | refine Le.lst rfl (fun _ _ => rfl) (fun x => (cCm_ok x).1) ?_ | refine Le.agg ?_ | refine Le.tup ?_ | refine Le.fn ?_ ?_ | refine Le.spt ?_ | exact Le.any _)), hvl⟩, ?_⟩
      cbv
      refine ⟨fun h0 => ?_, fun h0 => ?_⟩
      · cbv
        exfalso
        have h0 : ltB (idx v va.id) 0 = true := h0.out
        rw [(idx_ge fv).1] at h0; cases h0
      cbv
      exact ⟨i + 1, by ((try cbv) <;> (repeat' (first | with_reducible exact trivial | with_reducible refine And.intro ?_ ?_)) <;> (try first | exact SlotLe.refl _ | exact SlotLe.dyn rfl | exact SlotLe.map rfl | exact SlotLe.iter rfl rfl (.inl rfl) | exact SlotLe.iter rfl rfl (.inr rfl) | refine SlotLe.fix ?_ | refine SlotLe.dyn ?_) <;> ((repeat' first | exact LeL.nil | exact Le.refl _ | refine LeL.cons ?_ ?_ | exact Le.ic rfl | exact Le.bc rfl | exact Le.i rfl | exact Le.b rfl | exact Le.sl rfl | exact Le.mp rfl | exact Le.csl rfl | exact Le.cslsl rfl | exact Le.nils rfl (fun _ => ⟨trivial, trivial⟩) | refine Le.lst rfl (fun _ _ => rfl) (fun _ => ⟨trivial, trivial⟩) ?_ | refine Le.lst rfl (fun _ _ => rfl) (fun _ => ⟨fun _ => ⟨trivial, trivial⟩, trivial⟩) ?_ | exact Le.nils rfl (fun _ => ⟨fun _ => ⟨trivial, trivial⟩, trivial⟩) | exact Le.nils rfl (fun x => (cCm_ok x).1) | refine Le.lst rfl (fun _ _ => rfl) (fun x => (cCm_ok x).1) ?_ | refine Le.agg ?_ | refine Le.tup ?_ | refine Le.fn ?_ ?_ | refine Le.spt ?_ | exact Le.any _))) <;> (refine .i ?_; show IntKind.i64.wrap ((i : Int) + 1) = ((i + 1 : Nat) : Int); rw [w64 (by omega) (by omega)]; rfl), by ((try cbv) <;> (repeat' (first | with_reducible exact trivial | with_reducible refine And.intro ?_ ?_)) <;> (try first | exact SlotLe.refl _ | exact SlotLe.dyn rfl | exact SlotLe.map rfl | exact SlotLe.iter rfl rfl (.inl rfl) | exact SlotLe.iter rfl rfl (.inr rfl) | refine SlotLe.fix ?_ | refine SlotLe.dyn ?_) <;> ((repeat' first | exact LeL.nil | exact Le.refl _ | refine LeL.cons ?_ ?_ | exact Le.ic rfl | exact Le.bc rfl | exact Le.i rfl | exact Le.b rfl | exact Le.sl rfl | exact Le.mp rfl | exact Le.csl rfl | exact Le.cslsl rfl | exact Le.nils rfl (fun _ => ⟨trivial, trivial⟩) | refine Le.lst rfl (fun _ _ => rfl) (fun _ => ⟨trivial, trivial⟩) ?_ | refine Le.lst rfl (fun _ _ => rfl) (fun _ => ⟨fun _ => ⟨trivial, trivial⟩, trivial⟩) ?_ | exact Le.nils rfl (fun _ => ⟨fun _ => ⟨trivial, trivial⟩, trivial⟩) | exact Le.nils rfl (fun x => (cCm_ok x).1) | refine Le.lst rfl (fun _ _ => rfl) (fun x => (cCm_ok x).1) ?_ | refine Le.agg ?_ | refine Le.tup ?_ | refine Le.fn ?_ ?_ | refine Le.spt ?_ | exact Le.any _))), ⟨by show i + 1 ≤ u.length ∧ u.length - (i + 1) < u.length - i; omega⟩⟩

    · cbv
      refine ⟨⟨v, va.id⟩, ⟨by ((repeat' first | exact LeL.nil | exact Le.refl _ | refine LeL.cons ?_ ?_ | exact Le.ic rfl | exact Le.bc rfl | exact Le.i rfl | exact Le.b rfl | exact Le.sl rfl | exact Le.mp rfl | exact Le.csl rfl | exact Le.cslsl rfl | exact Le.nils rfl (fun _ => ⟨trivial, trivial⟩) | refine Le.lst rfl (fun _ _ => rfl) (fun _ => ⟨trivial, trivial⟩) ?_ | refine Le.lst rfl (fun _ _ => rfl) (fun _ => ⟨fun _ => ⟨trivial, trivial⟩, trivial⟩) ?_ | exact Le.nils rfl (fun _ => ⟨fun _ => ⟨trivial, trivial⟩, trivial⟩) | exact Le.nils rfl (fun x => (cCm_ok x).1) | refine Le.lst rfl (fun _ _ => rfl) (fun x => (cCm_ok x).1) ?_ | refine Le.agg ?_ | refine Le.tup ?_ | refine Le.fn ?_ ?_ | refine Le.spt ?_ | exact Le.any _)), hvl⟩, ?_⟩
      cbv
      refine ⟨fun h0 => ?_, fun h0 => ?_⟩
      · cbv
        exfalso
        have h0 : ltB (idx v va.id) 0 = true := h0.out
        rw [(idx_ge fv).1] at h0; cases h0
      cbv
      exact ⟨i + 1, by ((try cbv) <;> (repeat' (first | with_reducible exact trivial | with_reducible refine And.intro ?_ ?_)) <;> (try first | exact SlotLe.refl _ | exact SlotLe.dyn rfl | exact SlotLe.map rfl | exact SlotLe.iter rfl rfl (.inl rfl) | exact SlotLe.iter rfl rfl (.inr rfl) | refine SlotLe.fix ?_ | refine SlotLe.dyn ?_) <;> ((repeat' first | exact LeL.nil | exact Le.refl _ | refine LeL.cons ?_ ?_ | exact Le.ic rfl | exact Le.bc rfl | exact Le.i rfl | exact Le.b rfl | exact Le.sl rfl | exact Le.mp rfl | exact Le.csl rfl | exact Le.cslsl rfl | exact Le.nils rfl (fun _ => ⟨trivial, trivial⟩) | refine Le.lst rfl (fun _ _ => rfl) (fun _ => ⟨trivial, trivial⟩) ?_ | refine Le.lst rfl (fun _ _ => rfl) (fun _ => ⟨fun _ => ⟨trivial, trivial⟩, trivial⟩) ?_ | exact Le.nils rfl (fun _ => ⟨fun _ => ⟨trivial, trivial⟩, trivial⟩) | exact Le.nils rfl (fun x => (cCm_ok x).1) | refine Le.lst rfl (fun _ _ => rfl) (fun x => (cCm_ok x).1) ?_ | refine Le.agg ?_ | refine Le.tup ?_ | refine Le.fn ?_ ?_ | refine Le.spt ?_ | exact Le.any _))) <;> (refine .i ?_; show IntKind.i64.wrap ((i : Int) + 1) = ((i + 1 : Nat) : Int); rw [w64 (by omega) (by omega)]; rfl), by ((try cbv) <;> (repeat' (first | with_reducible exact trivial | with_reducible refine And.intro ?_ ?_)) <;> (try first | exact SlotLe.refl _ | exact SlotLe.dyn rfl | exact SlotLe.map rfl | exact SlotLe.iter rfl rfl (.inl rfl) | exact SlotLe.iter rfl rfl (.inr rfl) | refine SlotLe.fix ?_ | refine SlotLe.dyn ?_) <;> ((repeat' first | exact LeL.nil | exact Le.refl _ | refine LeL.cons ?_ ?_ | exact Le.ic rfl | exact Le.bc rfl | exact Le.i rfl | exact Le.b rfl | exact Le.sl rfl | exact Le.mp rfl | exact Le.csl rfl | exact Le.cslsl rfl | exact Le.nils rfl (fun _ => ⟨trivial, trivial⟩) | refine Le.lst rfl (fun _ _ => rfl) (fun _ => ⟨trivial, trivial⟩) ?_ | refine Le.lst rfl (fun _ _ => rfl) (fun _ => ⟨fun _ => ⟨trivial, trivial⟩, trivial⟩) ?_ | exact Le.nils rfl (fun _ => ⟨fun _ => ⟨trivial, trivial⟩, trivial⟩) | exact Le.nils rfl (fun x => (cCm_ok x).1) | refine Le.lst rfl (fun _ _ => rfl) (fun x => (cCm_ok x).1) ?_ | refine Le.agg ?_ | refine Le.tup ?_ | refine Le.fn ?_ ?_ | refine Le.spt ?_ | exact Le.any _))), ⟨by show i + 1 ≤ u.length ∧ u.length - (i + 1) < u.length - i; omega⟩⟩

  obtain ⟨a, ha⟩ : ∃ a, a = pickM h x.b := ⟨_, rfl⟩
  obtain ⟨b, hb⟩ : ∃ a, a = pickM g x.b := ⟨_, rfl⟩
  cbv
  refine ⟨⟨h, x.b⟩, ⟨by ((repeat' first | exact LeL.nil | exact Le.refl _ | refine LeL.cons ?_ ?_ | exact Le.ic rfl | exact Le.bc rfl | exact Le.i rfl | exact Le.b rfl | exact Le.sl rfl | exact Le.mp rfl | exact Le.csl rfl | exact Le.cslsl rfl | exact Le.nils rfl (fun _ => ⟨trivial, trivial⟩) | refine Le.lst rfl (fun _ _ => rfl) (fun _ => ⟨trivial, trivial⟩) ?_ | refine Le.lst rfl (fun _ _ => rfl) (fun _ => ⟨fun _ => ⟨trivial, trivial⟩, trivial⟩) ?_ | exact Le.nils rfl (fun _ => ⟨fun _ => ⟨trivial, trivial⟩, trivial⟩) | exact Le.nils rfl (fun x => (cCm_ok x).1) | refine Le.lst rfl (fun _ _ => rfl) (fun x => (cCm_ok x).1) ?_ | refine Le.agg ?_ | refine Le.tup ?_ | refine Le.fn ?_ ?_ | refine Le.spt ?_ | exact Le.any _)), ⟨H, kb.1, kb.2⟩⟩, ?_⟩
  cbv
  refine ⟨⟨g, x.b⟩, ⟨by ((repeat' first | exact LeL.nil | exact Le.refl _ | refine LeL.cons ?_ ?_ | exact Le.ic rfl | exact Le.bc rfl | exact Le.i rfl | exact Le.b rfl | exact Le.sl rfl | exact Le.mp rfl | exact Le.csl rfl | exact Le.cslsl rfl | exact Le.nils rfl (fun _ => ⟨trivial, trivial⟩) | refine Le.lst rfl (fun _ _ => rfl) (fun _ => ⟨trivial, trivial⟩) ?_ | refine Le.lst rfl (fun _ _ => rfl) (fun _ => ⟨fun _ => ⟨trivial, trivial⟩, trivial⟩) ?_ | exact Le.nils rfl (fun _ => ⟨fun _ => ⟨trivial, trivial⟩, trivial⟩) | exact Le.nils rfl (fun x => (cCm_ok x).1) | refine Le.lst rfl (fun _ _ => rfl) (fun x => (cCm_ok x).1) ?_ | refine Le.agg ?_ | refine Le.tup ?_ | refine Le.fn ?_ ?_ | refine Le.spt ?_ | exact Le.any _)), ⟨Hg, kb.1, kb.2⟩⟩, ?_⟩
  cbv
  refine ⟨⟨h, a⟩, ⟨.cons (.sl rfl) (.cons (.i ha.symm) .nil), H⟩, ?_⟩
  cbv
  refine ⟨⟨g, b⟩, ⟨.cons (.sl rfl) (.cons (.i hb.symm) .nil), Hg⟩, ?_⟩
  have la := ancS_len hle a
  have lb := ancS_len hgle b
  cbv
  refine ⟨fun h7 => ?_, fun h7 => ?_⟩
  · have fa : has h a = true := (anc_has G a).symm.trans h7.out
    have fua : has u a = true := by rw [hu, has_union, fa]; rfl
    have anu : ancS u a = ancS h a := by rw [hu]; exact anc_union G K fa
    cbv
    refine ⟨⟨u, a⟩, ⟨.cons (.sl rfl) (.cons (.i ha.symm) .nil), hvu.hs⟩, ?_⟩
    cbv
    refine ⟨⟨⟨(ancS h a).1, (ancS h a).2⟩, ⟨(ancS h a).1, (ancS h a).2⟩⟩, ⟨.cons (.agg (.cons (.sl (by show (ancS u a).1 = (ancS h a).1; rw [anu])) (.cons (.i (by show (ancS u a).2 = (ancS h a).2; rw [anu])) .nil))) (.cons (.agg (by ((repeat' first | exact LeL.nil | exact Le.refl _ | refine LeL.cons ?_ ?_ | exact Le.ic rfl | exact Le.bc rfl | exact Le.i rfl | exact Le.b rfl | exact Le.sl rfl | exact Le.mp rfl | exact Le.csl rfl | exact Le.cslsl rfl | exact Le.nils rfl (fun _ => ⟨trivial, trivial⟩) | refine Le.lst rfl (fun _ _ => rfl) (fun _ => ⟨trivial, trivial⟩) ?_ | refine Le.lst rfl (fun _ _ => rfl) (fun _ => ⟨fun _ => ⟨trivial, trivial⟩, trivial⟩) ?_ | exact Le.nils rfl (fun _ => ⟨fun _ => ⟨trivial, trivial⟩, trivial⟩) | exact Le.nils rfl (fun x => (cCm_ok x).1) | refine Le.lst rfl (fun _ _ => rfl) (fun x => (cCm_ok x).1) ?_ | refine Le.agg ?_ | refine Le.tup ?_ | refine Le.fn ?_ ?_ | refine Le.spt ?_ | exact Le.any _)))) .nil), la⟩, ?_⟩
    cbv
    refine ⟨fun h0 => ?_, fun h0 => ?_⟩
    · cbv
      exfalso
      have h0 : (!((ancS h a).2 == (ancS h a).2 && (ancS h a).1 == (ancS h a).1)) = true := h0.out
      simp at h0
    cbv
    refine ⟨fun h8 => ?_, fun h8 => ?_⟩
    · have fb : has g b = true := (anc_has K b).symm.trans h8.out
      have fub : has u b = true := by rw [hu, has_union, fb, Bool.or_true]
      have anv : ancS v b = ancS g b := by rw [hv]; exact anc_union K G fb
      cbv
      refine ⟨⟨v, b⟩, ⟨.cons (.sl rfl) (.cons (.i hb.symm) .nil), hvv.hs⟩, ?_⟩
      cbv
      refine ⟨⟨⟨(ancS g b).1, (ancS g b).2⟩, ⟨(ancS g b).1, (ancS g b).2⟩⟩, ⟨.cons (.agg (.cons (.sl (by show (ancS v b).1 = (ancS g b).1; rw [anv])) (.cons (.i (by show (ancS v b).2 = (ancS g b).2; rw [anv])) .nil))) (.cons (.agg (by ((repeat' first | exact LeL.nil | exact Le.refl _ | refine LeL.cons ?_ ?_ | exact Le.ic rfl | exact Le.bc rfl | exact Le.i rfl | exact Le.b rfl | exact Le.sl rfl | exact Le.mp rfl | exact Le.csl rfl | exact Le.cslsl rfl | exact Le.nils rfl (fun _ => ⟨trivial, trivial⟩) | refine Le.lst rfl (fun _ _ => rfl) (fun _ => ⟨trivial, trivial⟩) ?_ | refine Le.lst rfl (fun _ _ => rfl) (fun _ => ⟨fun _ => ⟨trivial, trivial⟩, trivial⟩) ?_ | exact Le.nils rfl (fun _ => ⟨fun _ => ⟨trivial, trivial⟩, trivial⟩) | exact Le.nils rfl (fun x => (cCm_ok x).1) | refine Le.lst rfl (fun _ _ => rfl) (fun x => (cCm_ok x).1) ?_ | refine Le.agg ?_ | refine Le.tup ?_ | refine Le.fn ?_ ?_ | refine Le.spt ?_ | exact Le.any _)))) .nil), lb⟩, ?_⟩
      cbv
      refine ⟨fun h0 => ?_, fun h0 => ?_⟩
      · cbv
        exfalso
        have h0 : (!((ancS g b).2 == (ancS g b).2 && (ancS g b).1 == (ancS g b).1)) = true := h0.out
        simp at h0
      cbv
      refine ⟨fun h0 => ?_, fun h0 => ?_⟩
      · cbv
        exfalso
        have h0 : (!eqB (ancS h a).2 0) = true := h0.out
        rw [anc_has G, fa] at h0; cases h0
      cbv
      refine ⟨⟨u, a⟩, ⟨.cons (.sl rfl) (.cons (.i ha.symm) .nil), hul⟩, ?_⟩
      cbv
      refine ⟨fun h0 => ?_, fun h0 => ?_⟩
      rotate_left
      · cbv
        exfalso
        have h0 : leB 0 (idx u a) = false := h0.out
        rw [(idx_ge fua).2] at h0; cases h0
      cbv
      refine ⟨fun h0 => ?_, fun h0 => ?_⟩
      · cbv
        exfalso
        have h0 : (!eqB (ancS g b).2 0) = true := h0.out
        rw [anc_has K, fb] at h0; cases h0
      cbv
      refine ⟨⟨u, b⟩, ⟨.cons (.sl rfl) (.cons (.i hb.symm) .nil), hul⟩, ?_⟩
      cbv
      refine ⟨fun h0 => ?_, fun h0 => ?_⟩
      rotate_left
      · cbv
        exfalso
        have h0 : leB 0 (idx u b) = false := h0.out
        rw [(idx_ge fub).2] at h0; cases h0
      cbv
      exact ⟨.refl _⟩

    · have fb : has g b = false := (anc_has K b).symm.trans h8.out
      cbv
      refine ⟨fun h0 => ?_, fun h0 => ?_⟩
      · cbv
        exfalso
        have h0 : (!eqB (ancS h a).2 0) = true := h0.out
        rw [anc_has G, fa] at h0; cases h0
      cbv
      refine ⟨⟨u, a⟩, ⟨.cons (.sl rfl) (.cons (.i ha.symm) .nil), hul⟩, ?_⟩
      cbv
      refine ⟨fun h0 => ?_, fun h0 => ?_⟩
      rotate_left
      · cbv
        exfalso
        have h0 : leB 0 (idx u a) = false := h0.out
        rw [(idx_ge fua).2] at h0; cases h0
      cbv
      refine ⟨fun h0 => ?_, fun h0 => ?_⟩
      rotate_left
      · cbv
        exfalso
        have h0 : (!eqB (ancS g b).2 0) = false := h0.out
        rw [anc_has K, fb] at h0; cases h0
      cbv
      exact ⟨.refl _⟩

  · have fa : has h a = false := (anc_has G a).symm.trans h7.out
    cbv
    refine ⟨fun h8 => ?_, fun h8 => ?_⟩
    · have fb : has g b = true := (anc_has K b).symm.trans h8.out
      have fub : has u b = true := by rw [hu, has_union, fb, Bool.or_true]
      have anv : ancS v b = ancS g b := by rw [hv]; exact anc_union K G fb
      cbv
      refine ⟨⟨v, b⟩, ⟨.cons (.sl rfl) (.cons (.i hb.symm) .nil), hvv.hs⟩, ?_⟩
      cbv
      refine ⟨⟨⟨(ancS g b).1, (ancS g b).2⟩, ⟨(ancS g b).1, (ancS g b).2⟩⟩, ⟨.cons (.agg (.cons (.sl (by show (ancS v b).1 = (ancS g b).1; rw [anv])) (.cons (.i (by show (ancS v b).2 = (ancS g b).2; rw [anv])) .nil))) (.cons (.agg (by ((repeat' first | exact LeL.nil | exact Le.refl _ | refine LeL.cons ?_ ?_ | exact Le.ic rfl | exact Le.bc rfl | exact Le.i rfl | exact Le.b rfl | exact Le.sl rfl | exact Le.mp rfl | exact Le.csl rfl | exact Le.cslsl rfl | exact Le.nils rfl (fun _ => ⟨trivial, trivial⟩) | refine Le.lst rfl (fun _ _ => rfl) (fun _ => ⟨trivial, trivial⟩) ?_ | refine Le.lst rfl (fun _ _ => rfl) (fun _ => ⟨fun _ => ⟨trivial, trivial⟩, trivial⟩) ?_ | exact Le.nils rfl (fun _ => ⟨fun _ => ⟨trivial, trivial⟩, trivial⟩) | exact Le.nils rfl (fun x => (cCm_ok x).1) | refine Le.lst rfl (fun _ _ => rfl) (fun x => (cCm_ok x).1) ?_ | refine Le.agg ?_ | refine Le.tup ?_ | refine Le.fn ?_ ?_ | refine Le.spt ?_ | exact Le.any _)))) .nil), lb⟩, ?_⟩
      cbv
      refine ⟨fun h0 => ?_, fun h0 => ?_⟩
      · cbv
        exfalso
        have h0 : (!((ancS g b).2 == (ancS g b).2 && (ancS g b).1 == (ancS g b).1)) = true := h0.out
        simp at h0
      cbv
      refine ⟨fun h0 => ?_, fun h0 => ?_⟩
      rotate_left
      · cbv
        exfalso
        have h0 : (!eqB (ancS h a).2 0) = false := h0.out
        rw [anc_has G, fa] at h0; cases h0
      cbv
      refine ⟨fun h0 => ?_, fun h0 => ?_⟩
      · cbv
        exfalso
        have h0 : (!eqB (ancS g b).2 0) = true := h0.out
        rw [anc_has K, fb] at h0; cases h0
      cbv
      refine ⟨⟨u, b⟩, ⟨.cons (.sl rfl) (.cons (.i hb.symm) .nil), hul⟩, ?_⟩
      cbv
      refine ⟨fun h0 => ?_, fun h0 => ?_⟩
      rotate_left
      · cbv
        exfalso
        have h0 : leB 0 (idx u b) = false := h0.out
        rw [(idx_ge fub).2] at h0; cases h0
      cbv
      exact ⟨.refl _⟩

    · have fb : has g b = false := (anc_has K b).symm.trans h8.out
      cbv
      refine ⟨fun h0 => ?_, fun h0 => ?_⟩
      rotate_left
      · cbv
        exfalso
        have h0 : (!eqB (ancS h a).2 0) = false := h0.out
        rw [anc_has G, fa] at h0; cases h0
      cbv
      refine ⟨fun h0 => ?_, fun h0 => ?_⟩
      rotate_left
      · cbv
        exfalso
        have h0 : (!eqB (ancS g b).2 0) = false := h0.out
        rw [anc_has K, fb] at h0; cases h0
      cbv
      exact ⟨.refl _⟩


end Go.Proofs.Hist
