/-
  The histories' functions: a commit is changed, the law
-/
import Derived.Test.YtpbechemimnikaaHisW
set_option linter.unusedVariables false
set_option linter.unusedSimpArgs false
set_option maxRecDepth 10000
set_option maxHeartbeats 32000000
namespace Go.Proofs.Hist
open Go Go.Vc

variable {h : List Cm}
def K1 : BitVec 64 := 15485907386658061715#64
def K2 : BitVec 64 := 11562461410679940143#64
def foldB (x : BitVec 64) : BitVec 64 := x ^^^ (x >>> 32)
theorem foldB_foldB (x : BitVec 64) : foldB (foldB x) = x := by
  unfold foldB
  rw [BitVec.ushiftRight_xor_distrib, ← BitVec.shiftRight_add]
  have : x >>> (32 + 32) = 0#64 := by
    apply BitVec.eq_of_toNat_eq
    simp only [BitVec.toNat_ushiftRight, BitVec.toNat_ofNat, Nat.shiftRight_eq_div_pow]
    rw [Nat.div_eq_of_lt x.isLt]
  rw [this, BitVec.xor_zero, BitVec.xor_assoc, BitVec.xor_self, BitVec.xor_zero]
theorem foldB_inj {x y : BitVec 64} (h : foldB x = foldB y) : x = y := by rw [← foldB_foldB x, h, foldB_foldB]
theorem mul1 (x : BitVec 64) : x * K1 * 14982988110149298331#64 = x := by
  rw [BitVec.mul_assoc, show K1 * 14982988110149298331#64 = 1#64 by decide +kernel, BitVec.mul_one]
theorem mul2 (x : BitVec 64) : x * K2 * 10636502746458383055#64 = x := by
  rw [BitVec.mul_assoc, show K2 * 10636502746458383055#64 = 1#64 by decide +kernel, BitVec.mul_one]
theorem mul1_inj {x y : BitVec 64} (h : x * K1 = y * K1) : x = y := by rw [← mul1 x, h, mul1]
theorem mul2_inj {x y : BitVec 64} (h : x * K2 = y * K2) : x = y := by rw [← mul2 x, h, mul2]
def stepB (h w : BitVec 64) : BitVec 64 := foldB ((h ^^^ w) * K1) * K2
theorem stepB_left {h h' w : BitVec 64} (e : stepB h w = stepB h' w) : h = h' := by
  have := mul1_inj (foldB_inj (mul2_inj e))
  have := congrArg (· ^^^ w) this
  simpa [BitVec.xor_assoc] using this
theorem stepB_right {h w w' : BitVec 64} (e : stepB h w = stepB h w') : w = w' := by
  have := mul1_inj (foldB_inj (mul2_inj e))
  have := congrArg (h ^^^ ·) this
  simpa [← BitVec.xor_assoc] using this

theorem wrap_nat (n : Nat) : IntKind.u64.wrap (n : Int) = ((n % 2 ^ 64 : Nat) : Int) := by
  simp [IntKind.wrap, IntKind.bits, IntKind.signed]
theorem wrap_bv (x : BitVec 64) : IntKind.u64.wrap (x.toNat : Int) = (x.toNat : Int) := by
  rw [wrap_nat, Nat.mod_eq_of_lt x.isLt]
theorem ofInt_toNat (x : BitVec 64) : BitVec.ofInt 64 (x.toNat : Int) = x := by
  apply BitVec.eq_of_toNat_eq
  simp
theorem xor_eq (a b : Int) : bitF .xor .u64 a b = ((BitVec.ofInt 64 a ^^^ BitVec.ofInt 64 b).toNat : Int) := by
  have : bitF .xor .u64 a b = IntKind.u64.wrap ((BitVec.ofInt 64 a ^^^ BitVec.ofInt 64 b).toNat : Int) := rfl
  rw [this, wrap_bv]
theorem mul_eq (x y : BitVec 64) : IntKind.u64.wrap ((x.toNat : Int) * (y.toNat : Int)) = ((x * y).toNat : Int) := by
  rw [show (x.toNat : Int) * (y.toNat : Int) = ((x.toNat * y.toNat : Nat) : Int) by simp, wrap_nat, BitVec.toNat_mul]
theorem mixW_eq (h w : Int) : mixW h w = (((BitVec.ofInt 64 h ^^^ BitVec.ofInt 64 w) * K1).toNat : Int) := by
  unfold mixW
  rw [xor_eq]
  exact mul_eq _ K1
theorem step0_eq (h w : Int) : step0 h w = ((stepB (BitVec.ofInt 64 h) (BitVec.ofInt 64 w)).toNat : Int) := by
  unfold step0
  rw [mixW_eq]
  generalize hx : (BitVec.ofInt 64 h ^^^ BitVec.ofInt 64 w) * K1 = x
  have hs : ((x.toNat : Int)).fdiv (2 ^ (min (32 : Int).toNat IntKind.u64.bits)) = ((x >>> 32).toNat : Int) := by
    rw [show (2 : Int) ^ (min (32 : Int).toNat IntKind.u64.bits) = ((2 ^ 32 : Nat) : Int) by rfl, BitVec.toNat_ushiftRight, Nat.shiftRight_eq_div_pow]
    rw [Int.fdiv_eq_ediv_of_nonneg _ (Int.natCast_nonneg _)]
    rfl
  rw [hs, xor_eq, ofInt_toNat, ofInt_toNat]
  have := mul_eq (x ^^^ (x >>> 32)) K2
  rw [show ((11562461410679940143 : Int)) = (K2.toNat : Int) by decide +kernel, this]
  unfold stepB foldB
  rw [hx]

/-- A number of 64 bits. -/
def U64 (n : Int) : Prop := 0 ≤ n ∧ n < 18446744073709551616
theorem ofInt_inj {a b : Int} (ha : U64 a) (hb : U64 b) (h : BitVec.ofInt 64 a = BitVec.ofInt 64 b) : a = b := by
  have := congrArg BitVec.toNat h
  rw [BitVec.toNat_ofInt, BitVec.toNat_ofInt] at this
  obtain ⟨a0, a1⟩ := ha
  obtain ⟨b0, b1⟩ := hb
  omega
theorem stepW_u64 (h w : Int) : U64 (stepW h w) := by
  rw [stepW_eq, step0_eq]
  have := (stepB (BitVec.ofInt 64 h) (BitVec.ofInt 64 w)).isLt
  unfold U64
  omega
theorem stepW_left {h h' w : Int} (hh : U64 h) (hh' : U64 h') (e : stepW h w = stepW h' w) : h = h' := by
  rw [stepW_eq, step0_eq, step0_eq] at e
  exact ofInt_inj hh hh' (stepB_left (w := BitVec.ofInt 64 w) (BitVec.eq_of_toNat_eq (by omega)))
theorem stepW_right {h w w' : Int} (hw : U64 w) (hw' : U64 w') (e : stepW h w = stepW h w') : w = w' := by
  rw [stepW_eq, step0_eq, step0_eq] at e
  exact ofInt_inj hw hw' (stepB_right (h := BitVec.ofInt 64 h) (BitVec.eq_of_toNat_eq (by omega)))
theorem wrap_u64 (n : Int) : U64 (IntKind.u64.wrap n) := by
  simp [U64, IntKind.wrap, IntKind.bits, IntKind.signed]
  omega
theorem foldW_u64 {h : Int} (hh : U64 h) : ∀ l, U64 (foldW h l)
  | [] => hh
  | n :: l => by
    show U64 (foldW (stepW h _) l)
    exact foldW_u64 (stepW_u64 _ _) l
theorem wordsW_u64 (l : List Int) : U64 (wordsW l) := stepW_u64 _ _
theorem foldW_left {l : List Int} : ∀ {h h' : Int}, U64 h → U64 h' → foldW h l = foldW h' l → h = h' := by
  induction l with
  | nil => intro h h' _ _ e; exact e
  | cons n l ih =>
    intro h h' hh hh' e
    have e' : foldW (stepW h (IntKind.u64.wrap n)) l = foldW (stepW h' (IntKind.u64.wrap n)) l := e
    exact stepW_left hh hh' (ih (stepW_u64 _ _) (stepW_u64 _ _) e')
theorem init_u64 : U64 512970876019 := by unfold U64; omega
/-- Two lists that differ in one number have different digests. -/
theorem words_one {a b : List Int} {n m : Int} (e : wordsW (a ++ n :: b) = wordsW (a ++ m :: b)) : IntKind.u64.wrap n = IntKind.u64.wrap m := by
  unfold wordsW at e
  rw [show (a ++ n :: b).length = (a ++ m :: b).length by simp] at e
  have h2 := stepW_left (foldW_u64 init_u64 _) (foldW_u64 init_u64 _) e
  have h3 : ∀ x, foldW 512970876019 (a ++ x :: b) = foldW (stepW (foldW 512970876019 a) (IntKind.u64.wrap x)) b := fun x => by
    unfold foldW; rw [List.foldl_append, List.foldl_cons]
  rw [h3, h3] at h2
  exact stepW_right (wrap_u64 _) (wrap_u64 _) (foldW_left (stepW_u64 _ _) (stepW_u64 _ _) h2)
theorem uwrap {n : Int} (h : U64 n) : IntKind.u64.wrap (IntKind.i64.wrap n) = n := by
  obtain ⟨h0, h1⟩ := h
  simp only [IntKind.wrap, IntKind.bits, IntKind.signed]
  simp
  omega
def I64 (n : Int) : Prop := -9223372036854775808 ≤ n ∧ n ≤ 9223372036854775807
theorem nwrap {n m : Int} (hn : I64 n) (hm : I64 m) (e : IntKind.u64.wrap n = IntKind.u64.wrap m) : n = m := by
  obtain ⟨h0, h1⟩ := hn
  obtain ⟨h2, h3⟩ := hm
  simp only [IntKind.wrap, IntKind.bits, IntKind.signed] at e
  simp at e
  omega
theorem iwrap (n : Int) : I64 (IntKind.i64.wrap n) := by
  unfold I64
  simp only [IntKind.wrap, IntKind.bits, IntKind.signed]
  simp
  omega
theorem dg_tree {c : Cm} {t : Int} (h1 : U64 c.tree) (h2 : U64 t) (e : dgW { c with tree := t } = dgW c) : t = c.tree := by
  have h : wordsW (((c.par.length : Int) :: c.par.map fun p => IntKind.i64.wrap p) ++ IntKind.i64.wrap t :: [c.no]) = wordsW (((c.par.length : Int) :: c.par.map fun p => IntKind.i64.wrap p) ++ IntKind.i64.wrap c.tree :: [c.no]) := e
  have := words_one h
  rw [uwrap h2, uwrap h1] at this
  exact this
theorem dg_no {c : Cm} {n : Int} (h1 : I64 c.no) (h2 : I64 n) (e : dgW { c with no := n } = dgW c) : n = c.no := by
  have h0 : ∀ x, dgW { c with no := x } = wordsW (((c.par.length : Int) :: c.par.map (fun p => IntKind.i64.wrap p) ++ [IntKind.i64.wrap c.tree]) ++ x :: []) := fun x => by
    unfold dgW words
    simp
  have h : dgW { c with no := n } = dgW { c with no := c.no } := e
  rw [h0, h0] at h
  exact nwrap h2 h1 (words_one h)
theorem dg_par {c : Cm} {k : Nat} {v p : Int} (hp : c.par[k]? = some p) (h1 : U64 p) (h2 : U64 v) (e : dgW { c with par := c.par.set k v } = dgW c) : v = p := by
  have hlt := (List.getElem?_eq_some_iff.1 hp).1
  have h0 : ∀ x, dgW { c with par := c.par.set k x } = wordsW (((c.par.length : Int) :: (c.par.take k).map fun p => IntKind.i64.wrap p) ++ IntKind.i64.wrap x :: ((c.par.drop (k + 1)).map (fun p => IntKind.i64.wrap p) ++ [IntKind.i64.wrap c.tree, c.no])) := fun x => by
    unfold dgW words
    congr 1
    simp only [List.length_set]
    rw [List.set_eq_take_append_cons_drop, if_pos hlt]
    simp
  have hs : c.par.set k p = c.par := by
    apply List.ext_getElem?
    intro j
    rw [List.getElem?_set]
    split
    · rename_i q; subst q; first | rw [if_pos hlt, hp] | rw [hp]
    · rfl
  have h : dgW { c with par := c.par.set k v } = dgW { c with par := c.par.set k p } := by rw [e, hs]
  rw [h0, h0] at h
  have := words_one h
  rw [uwrap h2, uwrap h1] at this
  exact this
/-- What a byte may be. -/
def TN (c : Cm) : Prop := (0 ≤ c.tree ∧ c.tree < 256) ∧ (0 ≤ c.no ∧ c.no < 256)
theorem mkB_tn {l : List B4} (hl : ∀ b ∈ l, B4.ok b) (h : List Cm) (i : Nat) : TN (mkB l h i) := by
  unfold mkB
  split
  · rename_i b hb
    have := hl b (List.mem_of_getElem? hb)
    exact ⟨this.2.2.1, this.2.2.2⟩
  · exact ⟨⟨by decide, by decide⟩, by decide, by decide⟩
theorem grow_tn {l : List B4} (hl : ∀ b ∈ l, B4.ok b) : ∀ (n : Nat) (h : List Cm) (i : Nat), (∀ c ∈ h, TN c) → ∀ c ∈ growM dgW (mkB l) n h i, TN c
  | 0, h, i, hh => hh
  | n + 1, h, i, hh => by
    refine grow_tn hl n _ (i + 1) ?_
    have hm := mkB_tn hl h i
    split
    · unfold addM
      repeat' split
      all_goals first | exact hh | (intro c hc; exact absurd hc List.not_mem_nil) | skip
      intro c hc
      rcases List.mem_append.1 hc with hc | hc
      · exact hh c hc
      · simp at hc; subst hc; exact hm
    · exact hh
theorem Good.u64 (G : Good dgW h) : ∀ c ∈ h, U64 c.id := fun c hc => by rw [G.dgs c hc]; exact wordsW_u64 _
/-- One number of a commit is another one: it is the same, or its digest is not its number. -/
theorem change_id (G : Good dgW h) {o : Cm} (ho : o ∈ h) (v : Int) : ({ o with id := v } : Cm) = o ∨ ({ o with id := v } : Cm).id ≠ dgW { o with id := v } := by
  have h1 := G.dgs o ho
  by_cases e : v = o.id
  · left; cases o; simp at e ⊢; exact e
  · right
    show v ≠ dgW o
    rw [← h1]; exact e
theorem change_tree (G : Good dgW h) {o : Cm} (ho : o ∈ h) (ht : TN o) {v : Int} (hv : U64 v) : ({ o with tree := v } : Cm) = o ∨ ({ o with tree := v } : Cm).id ≠ dgW { o with tree := v } := by
  have h1 := G.dgs o ho
  by_cases e : v = o.tree
  · left; cases o; simp at e ⊢; exact e
  · right
    intro q
    have q : o.id = dgW { o with tree := v } := q
    rw [h1] at q
    exact e (dg_tree ⟨ht.1.1, by have := ht.1.2; omega⟩ hv q.symm)
theorem change_no (G : Good dgW h) {o : Cm} (ho : o ∈ h) (ht : TN o) {v : Int} (hv : I64 v) : ({ o with no := v } : Cm) = o ∨ ({ o with no := v } : Cm).id ≠ dgW { o with no := v } := by
  have h1 := G.dgs o ho
  by_cases e : v = o.no
  · left; cases o; simp at e ⊢; exact e
  · right
    intro q
    have q : o.id = dgW { o with no := v } := q
    rw [h1] at q
    exact e (dg_no ⟨by have := ht.2.1; omega, by have := ht.2.2; omega⟩ hv q.symm)
theorem change_par (G : Good dgW h) {o : Cm} (ho : o ∈ h) {k : Nat} (hk : k < o.par.length) {v : Int} (hv : U64 v) : ({ o with par := o.par.set k v } : Cm) = o ∨ ({ o with par := o.par.set k v } : Cm).id ≠ dgW { o with par := o.par.set k v } := by
  have h1 := G.dgs o ho
  obtain ⟨p, hp⟩ : ∃ p, o.par[k]? = some p := ⟨_, List.getElem?_eq_getElem hk⟩
  have hpu : U64 p := by
    obtain ⟨c, hc, e⟩ := has_iff.1 (G.par_has o ho p (List.mem_of_getElem? hp))
    rw [← e]; exact G.u64 c hc
  by_cases e : v = p
  · left
    have hs : o.par.set k v = o.par := by
      apply List.ext_getElem?
      intro j
      rw [List.getElem?_set]
      split
      · rename_i q; subst q; rw [e]; first | rw [if_pos hk, hp] | rw [hp]
      · rfl
    rw [hs]
  · right
    intro q
    have q : o.id = dgW { o with par := o.par.set k v } := q
    rw [h1] at q
    exact e (dg_par hp hpu hv q.symm)

noncomputable def ctx23d : Ctx := { ctx23 with cut := fun r => Nat.beq r 21 }
theorem ctx23d_ok : ctx23d.Ok (PP ()) := ⟨tt_ok, el_ok ctx23d rfl, tab_all sp23_ok, fun f fn h => (tab_all inl2_ok f fn h).1, mixed⟩
theorem ctx23d_inl : InlOk ctx23d := fun f fn h => (tab_all inl2_ok f fn h).2
structure LKV where
  l : List B4
  a : Int
  b : Int
  v : Int
structure LKVok (x : LKV) : Prop where
  l : ∀ b ∈ x.l, B4.ok b
  a : 0 ≤ x.a ∧ x.a < 256
  b : 0 ≤ x.b ∧ x.b < 256
  v : U64 x.v
def intT (x : LKV) (h : List Cm) (j : Nat) (c : Cm) : Vc.St :=
  ⟨[.sl 4 cB4 (fun _ => x.l), .agg [.i .u8 (fun _ => x.a), .i .u8 (fun _ => x.b)], .i .u64 (fun _ => x.v), .any, .ptr 0 0, .any, .bc false, .bc true, .sl 4 cCm (fun _ => h), .i .i64 (fun _ => (j : Int)), .ptr 1 0] ++ anys 98,
    [.fix 38 [.i .u8 (fun _ => x.a), .i .u8 (fun _ => x.b)], .fix 43 (Cm.cells fun _ => c)]⟩
def intS : Vc.Spec where
  α := LKV
  args x := [.sl 4 cB4 (fun _ => x.l), .agg [.i .u8 (fun _ => x.a), .i .u8 (fun _ => x.b)], .i .u64 (fun _ => x.v)]
  pre x := LKVok x
  res x := .bc true
theorem Int_ok : SpecOk (PP ()) 7 intS := by
  refine spec_of_vc (lv := 2) ctx23d_ok ctx23d_inl (fnOk_of Try.func7 (by kernel_rfl)) (by kernel_rfl) (fun a => by simp [intS, LFL, LF, cU64, cCm, Cm.cells, cB4]) (fun a => by simp [intS, LFL, LF, cU64, cCm, Cm.cells, cB4]) ?_
  intro x hx
  have hl0 : ∀ b ∈ x.l, B4.ok b := hx.l
  have ka := hx.a
  have kb := hx.b
  have kv := hx.v
  refine ⟨?_⟩
  cbv
  refine ⟨(), ⟨by ((repeat' first | exact LeL.nil | exact Le.refl _ | refine LeL.cons ?_ ?_ | exact Le.ic rfl | exact Le.bc rfl | exact Le.i rfl | exact Le.b rfl | exact Le.sl rfl | exact Le.mp rfl | exact Le.csl rfl | exact Le.cslsl rfl | exact Le.nils rfl (fun _ => ⟨trivial, trivial⟩) | refine Le.lst rfl (fun _ _ => rfl) (fun _ => ⟨trivial, trivial⟩) ?_ | refine Le.lst rfl (fun _ _ => rfl) (fun _ => ⟨fun _ => ⟨trivial, trivial⟩, trivial⟩) ?_ | exact Le.nils rfl (fun _ => ⟨fun _ => ⟨trivial, trivial⟩, trivial⟩) | exact Le.nils rfl (fun x => (cCm_ok x).1) | refine Le.lst rfl (fun _ _ => rfl) (fun x => (cCm_ok x).1) ?_ | refine Le.agg ?_ | refine Le.tup ?_ | refine Le.fn ?_ ?_ | refine Le.spt ?_ | exact Le.any _)), trivial⟩, ?_⟩
  cbv
  refine ⟨fun h2 => ?_, fun h2 => ?_⟩
  · cbv
    exact ⟨.refl _⟩
  have h2 := h2.out
  have hlen : x.l.length ≤ 16 := by simp [ltB, leB] at h2; ((try simp only [Go.Vc.natc] at *); omega)
  obtain ⟨hB, G0, hn0, H0⟩ := grown_facts (by omega) hl0
  have T0 : ∀ c ∈ grown [] x.l, TN c := grow_tn hl0 _ _ _ (fun c hc => absurd hc List.not_mem_nil)
  obtain ⟨h, hh⟩ : ∃ h, h = grown [] x.l := ⟨_, rfl⟩
  rw [← hh] at G0 hn0 H0 T0
  have G := G0
  have H := H0
  have hle : h.length < 2305843009213693952 := by omega
  have hv : Hv h := ⟨by omega, H.m⟩
  have hok : okC h = 0 := okC_yes ((okH_good h).2 G)
  cbv
  refine ⟨⟨[], x.l⟩, ⟨by ((repeat' first | exact LeL.nil | exact Le.refl _ | refine LeL.cons ?_ ?_ | exact Le.ic rfl | exact Le.bc rfl | exact Le.i rfl | exact Le.b rfl | exact Le.sl rfl | exact Le.mp rfl | exact Le.csl rfl | exact Le.cslsl rfl | exact Le.nils rfl (fun _ => ⟨trivial, trivial⟩) | refine Le.lst rfl (fun _ _ => rfl) (fun _ => ⟨trivial, trivial⟩) ?_ | refine Le.lst rfl (fun _ _ => rfl) (fun _ => ⟨fun _ => ⟨trivial, trivial⟩, trivial⟩) ?_ | exact Le.nils rfl (fun _ => ⟨fun _ => ⟨trivial, trivial⟩, trivial⟩) | exact Le.nils rfl (fun x => (cCm_ok x).1) | refine Le.lst rfl (fun _ _ => rfl) (fun x => (cCm_ok x).1) ?_ | refine Le.agg ?_ | refine Le.tup ?_ | refine Le.fn ?_ ?_ | refine Le.spt ?_ | exact Le.any _)), hB⟩, ?_⟩
  cbv
  refine ⟨fun h3 => ?_, fun h3 => ?_⟩
  · cbv
    refine ⟨h, ⟨.cons (.sl hh.symm) .nil, hv⟩, ?_⟩
    cbv
    refine ⟨fun h0 => ?_, fun h0 => ?_⟩
    rotate_left
    · cbv
      exfalso
      have h0 : eqB (okC h) 0 = false := h0.out
      rw [hok] at h0; cases h0
    cbv

    exact ⟨.refl _⟩
  have h3 : eqB ((grown [] x.l).length : Int) 0 = false := h3.out
  rw [← hh] at h3
  have hn : 0 < h.length := by simp [eqB] at h3; exact List.length_pos_iff.2 h3
  have hn' : ¬ ((grown [] x.l).length : Int) = 0 := by rw [← hh]; omega
  have hm := Nat.mod_lt x.a.toNat hn
  obtain ⟨j, hj⟩ : ∃ j, j = x.a.toNat % h.length := ⟨_, rfl⟩
  rw [← hj] at hm
  have hix : (IntKind.i64.wrap x.a).tmod ((grown [] x.l).length : Int) = (j : Int) := by rw [← hh, hj]; exact pick_ix ka.1 ka.2
  obtain ⟨o, ho⟩ : ∃ c, h[j]? = some c := ⟨_, List.getElem?_eq_getElem hm⟩
  have hom := List.mem_of_getElem? ho
  have hix0 : 0 ≤ (IntKind.i64.wrap x.a).tmod ((grown [] x.l).length : Int) := by rw [hix]; exact Int.natCast_nonneg _
  have hixc : (grown [] x.l)[((IntKind.i64.wrap x.a).tmod ((grown [] x.l).length : Int)).toNat]? = some o := by rw [hix, Int.toNat_natCast, ← hh]; exact ho
  cbv
  refine ⟨⟨hn'⟩, ?_⟩
  refine ⟨o, ⟨hix0, hixc⟩, ?_⟩
  cbv
  refine ⟨⟨by decide⟩, ?_⟩
  have hop := H.get ho
  have hto := T0 o hom
  cbv
  apply withTail (fun c k => ∀ w : Cm, w.par.length ≤ 1000000 → (w = o ∨ w.id ≠ dgW w) → Sat [] false PP c (intT x h j w) k)
  · intro tail
    refine ⟨fun h4 => ?_, fun h4 => ?_⟩
    · clear h4
      cbv
      exact satTo 2 (intT x h j ({ o with id := x.v } : Cm)) (by ((try cbv) <;> (repeat' (first | with_reducible exact trivial | with_reducible refine And.intro ?_ ?_)) <;> (try first | exact SlotLe.refl _ | exact SlotLe.dyn rfl | exact SlotLe.map rfl | exact SlotLe.iter rfl rfl (.inl rfl) | exact SlotLe.iter rfl rfl (.inr rfl) | refine SlotLe.fix ?_ | refine SlotLe.dyn ?_) <;> ((repeat' first | exact LeL.nil | exact Le.refl _ | refine LeL.cons ?_ ?_ | exact Le.ic rfl | exact Le.bc rfl | exact Le.i rfl | exact Le.b rfl | exact Le.sl rfl | exact Le.mp rfl | exact Le.csl rfl | exact Le.cslsl rfl | exact Le.nils rfl (fun _ => ⟨trivial, trivial⟩) | refine Le.lst rfl (fun _ _ => rfl) (fun _ => ⟨trivial, trivial⟩) ?_ | refine Le.lst rfl (fun _ _ => rfl) (fun _ => ⟨fun _ => ⟨trivial, trivial⟩, trivial⟩) ?_ | exact Le.nils rfl (fun _ => ⟨fun _ => ⟨trivial, trivial⟩, trivial⟩) | exact Le.nils rfl (fun x => (cCm_ok x).1) | refine Le.lst rfl (fun _ _ => rfl) (fun x => (cCm_ok x).1) ?_ | refine Le.agg ?_ | refine Le.tup ?_ | refine Le.fn ?_ ?_ | refine Le.spt ?_ | exact Le.any _))) <;> first | exact .sl hh.symm | exact .i hix) (by ((try cbv) <;> (repeat' (first | with_reducible exact trivial | with_reducible refine And.intro ?_ ?_)) <;> (try first | exact SlotLe.refl _ | exact SlotLe.dyn rfl | exact SlotLe.map rfl | exact SlotLe.iter rfl rfl (.inl rfl) | exact SlotLe.iter rfl rfl (.inr rfl) | refine SlotLe.fix ?_ | refine SlotLe.dyn ?_) <;> ((repeat' first | exact LeL.nil | exact Le.refl _ | refine LeL.cons ?_ ?_ | exact Le.ic rfl | exact Le.bc rfl | exact Le.i rfl | exact Le.b rfl | exact Le.sl rfl | exact Le.mp rfl | exact Le.csl rfl | exact Le.cslsl rfl | exact Le.nils rfl (fun _ => ⟨trivial, trivial⟩) | refine Le.lst rfl (fun _ _ => rfl) (fun _ => ⟨trivial, trivial⟩) ?_ | refine Le.lst rfl (fun _ _ => rfl) (fun _ => ⟨fun _ => ⟨trivial, trivial⟩, trivial⟩) ?_ | exact Le.nils rfl (fun _ => ⟨fun _ => ⟨trivial, trivial⟩, trivial⟩) | exact Le.nils rfl (fun x => (cCm_ok x).1) | refine Le.lst rfl (fun _ _ => rfl) (fun x => (cCm_ok x).1) ?_ | refine Le.agg ?_ | refine Le.tup ?_ | refine Le.fn ?_ ?_ | refine Le.spt ?_ | exact Le.any _)))) (tail ({ o with id := x.v } : Cm) hop (change_id G hom x.v))

    clear h4
    cbv
    refine ⟨⟨by decide⟩, ?_⟩
    cbv
    refine ⟨fun h4 => ?_, fun h4 => ?_⟩
    · clear h4
      cbv
      exact satTo 2 (intT x h j ({ o with tree := x.v } : Cm)) (by ((try cbv) <;> (repeat' (first | with_reducible exact trivial | with_reducible refine And.intro ?_ ?_)) <;> (try first | exact SlotLe.refl _ | exact SlotLe.dyn rfl | exact SlotLe.map rfl | exact SlotLe.iter rfl rfl (.inl rfl) | exact SlotLe.iter rfl rfl (.inr rfl) | refine SlotLe.fix ?_ | refine SlotLe.dyn ?_) <;> ((repeat' first | exact LeL.nil | exact Le.refl _ | refine LeL.cons ?_ ?_ | exact Le.ic rfl | exact Le.bc rfl | exact Le.i rfl | exact Le.b rfl | exact Le.sl rfl | exact Le.mp rfl | exact Le.csl rfl | exact Le.cslsl rfl | exact Le.nils rfl (fun _ => ⟨trivial, trivial⟩) | refine Le.lst rfl (fun _ _ => rfl) (fun _ => ⟨trivial, trivial⟩) ?_ | refine Le.lst rfl (fun _ _ => rfl) (fun _ => ⟨fun _ => ⟨trivial, trivial⟩, trivial⟩) ?_ | exact Le.nils rfl (fun _ => ⟨fun _ => ⟨trivial, trivial⟩, trivial⟩) | exact Le.nils rfl (fun x => (cCm_ok x).1) | refine Le.lst rfl (fun _ _ => rfl) (fun x => (cCm_ok x).1) ?_ | refine Le.agg ?_ | refine Le.tup ?_ | refine Le.fn ?_ ?_ | refine Le.spt ?_ | exact Le.any _))) <;> first | exact .sl hh.symm | exact .i hix) (by ((try cbv) <;> (repeat' (first | with_reducible exact trivial | with_reducible refine And.intro ?_ ?_)) <;> (try first | exact SlotLe.refl _ | exact SlotLe.dyn rfl | exact SlotLe.map rfl | exact SlotLe.iter rfl rfl (.inl rfl) | exact SlotLe.iter rfl rfl (.inr rfl) | refine SlotLe.fix ?_ | refine SlotLe.dyn ?_) <;> ((repeat' first | exact LeL.nil | exact Le.refl _ | refine LeL.cons ?_ ?_ | exact Le.ic rfl | exact Le.bc rfl | exact Le.i rfl | exact Le.b rfl | exact Le.sl rfl | exact Le.mp rfl | exact Le.csl rfl | exact Le.cslsl rfl | exact Le.nils rfl (fun _ => ⟨trivial, trivial⟩) | refine Le.lst rfl (fun _ _ => rfl) (fun _ => ⟨trivial, trivial⟩) ?_ | refine Le.lst rfl (fun _ _ => rfl) (fun _ => ⟨fun _ => ⟨trivial, trivial⟩, trivial⟩) ?_ | exact Le.nils rfl (fun _ => ⟨fun _ => ⟨trivial, trivial⟩, trivial⟩) | exact Le.nils rfl (fun x => (cCm_ok x).1) | refine Le.lst rfl (fun _ _ => rfl) (fun x => (cCm_ok x).1) ?_ | refine Le.agg ?_ | refine Le.tup ?_ | refine Le.fn ?_ ?_ | refine Le.spt ?_ | exact Le.any _)))) (tail ({ o with tree := x.v } : Cm) hop (change_tree G hom hto kv))

    clear h4
    cbv
    refine ⟨⟨by decide⟩, ?_⟩
    cbv
    refine ⟨fun h4 => ?_, fun h4 => ?_⟩
    · clear h4
      cbv
      obtain ⟨vw, hvw⟩ : ∃ n, n = IntKind.i64.wrap x.v := ⟨_, rfl⟩
      have hvi : I64 vw := by rw [hvw]; exact iwrap _
      exact satTo 2 (intT x h j ({ o with no := vw } : Cm)) (by ((try cbv) <;> (repeat' (first | with_reducible exact trivial | with_reducible refine And.intro ?_ ?_)) <;> (try first | exact SlotLe.refl _ | exact SlotLe.dyn rfl | exact SlotLe.map rfl | exact SlotLe.iter rfl rfl (.inl rfl) | exact SlotLe.iter rfl rfl (.inr rfl) | refine SlotLe.fix ?_ | refine SlotLe.dyn ?_) <;> ((repeat' first | exact LeL.nil | exact Le.refl _ | refine LeL.cons ?_ ?_ | exact Le.ic rfl | exact Le.bc rfl | exact Le.i rfl | exact Le.b rfl | exact Le.sl rfl | exact Le.mp rfl | exact Le.csl rfl | exact Le.cslsl rfl | exact Le.nils rfl (fun _ => ⟨trivial, trivial⟩) | refine Le.lst rfl (fun _ _ => rfl) (fun _ => ⟨trivial, trivial⟩) ?_ | refine Le.lst rfl (fun _ _ => rfl) (fun _ => ⟨fun _ => ⟨trivial, trivial⟩, trivial⟩) ?_ | exact Le.nils rfl (fun _ => ⟨fun _ => ⟨trivial, trivial⟩, trivial⟩) | exact Le.nils rfl (fun x => (cCm_ok x).1) | refine Le.lst rfl (fun _ _ => rfl) (fun x => (cCm_ok x).1) ?_ | refine Le.agg ?_ | refine Le.tup ?_ | refine Le.fn ?_ ?_ | refine Le.spt ?_ | exact Le.any _))) <;> first | exact .sl hh.symm | exact .i hix) (by ((try cbv) <;> (repeat' (first | with_reducible exact trivial | with_reducible refine And.intro ?_ ?_)) <;> (try first | exact SlotLe.refl _ | exact SlotLe.dyn rfl | exact SlotLe.map rfl | exact SlotLe.iter rfl rfl (.inl rfl) | exact SlotLe.iter rfl rfl (.inr rfl) | refine SlotLe.fix ?_ | refine SlotLe.dyn ?_) <;> ((repeat' first | exact LeL.nil | exact Le.refl _ | refine LeL.cons ?_ ?_ | exact Le.ic rfl | exact Le.bc rfl | exact Le.i rfl | exact Le.b rfl | exact Le.sl rfl | exact Le.mp rfl | exact Le.csl rfl | exact Le.cslsl rfl | exact Le.nils rfl (fun _ => ⟨trivial, trivial⟩) | refine Le.lst rfl (fun _ _ => rfl) (fun _ => ⟨trivial, trivial⟩) ?_ | refine Le.lst rfl (fun _ _ => rfl) (fun _ => ⟨fun _ => ⟨trivial, trivial⟩, trivial⟩) ?_ | exact Le.nils rfl (fun _ => ⟨fun _ => ⟨trivial, trivial⟩, trivial⟩) | exact Le.nils rfl (fun x => (cCm_ok x).1) | refine Le.lst rfl (fun _ _ => rfl) (fun x => (cCm_ok x).1) ?_ | refine Le.agg ?_ | refine Le.tup ?_ | refine Le.fn ?_ ?_ | refine Le.spt ?_ | exact Le.any _))) <;> exact .i hvw.symm) (tail ({ o with no := vw } : Cm) hop (change_no G hom hto hvi))

    clear h4
    cbv
    refine ⟨fun h4 => ?_, fun h4 => ?_⟩
    · have h4 := h4.out
      have hpp : 0 < o.par.length := by simp [ltB] at h4; ((try simp only [Go.Vc.natc] at *); omega)
      have q1 : (([] : List Int).length + o.par.length) * 8 ≤ 140737488355328 := by simp; omega
      have q2 : ([] : List Int).length + o.par.length ≤ 9223372036854775807 := by simp; omega
      have hkn : ¬ (([] ++ o.par : List Int).length : Int) = 0 := by simp; exact List.length_pos_iff.1 hpp
      obtain ⟨qa, hqa⟩ : ∃ q, q = IntKind.u8.wrap (x.b.tdiv 4) := ⟨_, rfl⟩
      have hqar : 0 ≤ qa ∧ qa < 256 := by rw [hqa]; exact u8_range _
      have hmk := Nat.mod_lt qa.toNat hpp
      obtain ⟨k, hk⟩ : ∃ k, k = qa.toNat % o.par.length := ⟨_, rfl⟩
      rw [← hk] at hmk
      have hixk : (IntKind.i64.wrap (IntKind.u8.wrap (x.b.tdiv 4))).tmod (([] ++ o.par : List Int).length : Int) = (k : Int) := by rw [← hqa, List.nil_append, hk]; exact pick_ix hqar.1 hqar.2
      obtain ⟨vo, hvo⟩ : ∃ v, o.par[k]? = some v := ⟨_, List.getElem?_eq_getElem hmk⟩
      have hkx : 0 ≤ (IntKind.i64.wrap (IntKind.u8.wrap (x.b.tdiv 4))).tmod (([] ++ o.par : List Int).length : Int) ∧ ((IntKind.i64.wrap (IntKind.u8.wrap (x.b.tdiv 4))).tmod (([] ++ o.par : List Int).length : Int)).toNat < ([] ++ o.par : List Int).length := by
        rw [hixk]; exact ⟨Int.natCast_nonneg k, by simpa using hmk⟩
      have hvo2 : ([] ++ o.par : List Int)[((IntKind.i64.wrap (IntKind.u8.wrap (x.b.tdiv 4))).tmod (([] ++ o.par : List Int).length : Int)).toNat]? = some vo := by
        rw [hixk]; simpa using hvo
      obtain ⟨ps, hps⟩ : ∃ p, p = o.par.set k x.v := ⟨_, rfl⟩
      have hpsl : ps.length ≤ 1000000 := by rw [hps, List.length_set]; exact hop
      have hpsc := change_par G hom hmk kv
      rw [← hps] at hpsc
      have hsetp : ([] ++ o.par : List Int).set ((IntKind.i64.wrap (IntKind.u8.wrap (x.b.tdiv 4))).tmod (([] ++ o.par : List Int).length : Int)).toNat x.v = ps := by rw [hixk, hps]; simp
      cbv
      refine ⟨o.par, ⟨.sl rfl, q1, q2⟩, ?_⟩
      cbv
      refine ⟨⟨by decide⟩, ?_⟩
      refine ⟨⟨hkn⟩, ?_⟩
      cbv
      refine ⟨⟨hkx⟩, ?_⟩
      refine ⟨(vo, x.v), ⟨hvo2, rfl, by ((repeat' first | exact LeL.nil | exact Le.refl _ | refine LeL.cons ?_ ?_ | exact Le.ic rfl | exact Le.bc rfl | exact Le.i rfl | exact Le.b rfl | exact Le.sl rfl | exact Le.mp rfl | exact Le.csl rfl | exact Le.cslsl rfl | exact Le.nils rfl (fun _ => ⟨trivial, trivial⟩) | refine Le.lst rfl (fun _ _ => rfl) (fun _ => ⟨trivial, trivial⟩) ?_ | refine Le.lst rfl (fun _ _ => rfl) (fun _ => ⟨fun _ => ⟨trivial, trivial⟩, trivial⟩) ?_ | exact Le.nils rfl (fun _ => ⟨fun _ => ⟨trivial, trivial⟩, trivial⟩) | exact Le.nils rfl (fun x => (cCm_ok x).1) | refine Le.lst rfl (fun _ _ => rfl) (fun x => (cCm_ok x).1) ?_ | refine Le.agg ?_ | refine Le.tup ?_ | refine Le.fn ?_ ?_ | refine Le.spt ?_ | exact Le.any _))⟩, ?_⟩
      cbv
      refine Sat.freeze 3 rfl rfl ?_
      exact satTo 2 (intT x h j ({ o with par := ps } : Cm)) (by ((try cbv) <;> (repeat' (first | with_reducible exact trivial | with_reducible refine And.intro ?_ ?_)) <;> (try first | exact SlotLe.refl _ | exact SlotLe.dyn rfl | exact SlotLe.map rfl | exact SlotLe.iter rfl rfl (.inl rfl) | exact SlotLe.iter rfl rfl (.inr rfl) | refine SlotLe.fix ?_ | refine SlotLe.dyn ?_) <;> ((repeat' first | exact LeL.nil | exact Le.refl _ | refine LeL.cons ?_ ?_ | exact Le.ic rfl | exact Le.bc rfl | exact Le.i rfl | exact Le.b rfl | exact Le.sl rfl | exact Le.mp rfl | exact Le.csl rfl | exact Le.cslsl rfl | exact Le.nils rfl (fun _ => ⟨trivial, trivial⟩) | refine Le.lst rfl (fun _ _ => rfl) (fun _ => ⟨trivial, trivial⟩) ?_ | refine Le.lst rfl (fun _ _ => rfl) (fun _ => ⟨fun _ => ⟨trivial, trivial⟩, trivial⟩) ?_ | exact Le.nils rfl (fun _ => ⟨fun _ => ⟨trivial, trivial⟩, trivial⟩) | exact Le.nils rfl (fun x => (cCm_ok x).1) | refine Le.lst rfl (fun _ _ => rfl) (fun x => (cCm_ok x).1) ?_ | refine Le.agg ?_ | refine Le.tup ?_ | refine Le.fn ?_ ?_ | refine Le.spt ?_ | exact Le.any _))) <;> first | exact .sl hh.symm | exact .i hix) (by ((try cbv) <;> (repeat' (first | with_reducible exact trivial | with_reducible refine And.intro ?_ ?_)) <;> (try first | exact SlotLe.refl _ | exact SlotLe.dyn rfl | exact SlotLe.map rfl | exact SlotLe.iter rfl rfl (.inl rfl) | exact SlotLe.iter rfl rfl (.inr rfl) | refine SlotLe.fix ?_ | refine SlotLe.dyn ?_) <;> ((repeat' first | exact LeL.nil | exact Le.refl _ | refine LeL.cons ?_ ?_ | exact Le.ic rfl | exact Le.bc rfl | exact Le.i rfl | exact Le.b rfl | exact Le.sl rfl | exact Le.mp rfl | exact Le.csl rfl | exact Le.cslsl rfl | exact Le.nils rfl (fun _ => ⟨trivial, trivial⟩) | refine Le.lst rfl (fun _ _ => rfl) (fun _ => ⟨trivial, trivial⟩) ?_ | refine Le.lst rfl (fun _ _ => rfl) (fun _ => ⟨fun _ => ⟨trivial, trivial⟩, trivial⟩) ?_ | exact Le.nils rfl (fun _ => ⟨fun _ => ⟨trivial, trivial⟩, trivial⟩) | exact Le.nils rfl (fun x => (cCm_ok x).1) | refine Le.lst rfl (fun _ _ => rfl) (fun x => (cCm_ok x).1) ?_ | refine Le.agg ?_ | refine Le.tup ?_ | refine Le.fn ?_ ?_ | refine Le.spt ?_ | exact Le.any _))) <;> exact .sl hsetp) (tail ({ o with par := ps } : Cm) hpsl hpsc)

    · clear h4
      cbv
      exact satTo 2 (intT x h j o) (by ((try cbv) <;> (repeat' (first | with_reducible exact trivial | with_reducible refine And.intro ?_ ?_)) <;> (try first | exact SlotLe.refl _ | exact SlotLe.dyn rfl | exact SlotLe.map rfl | exact SlotLe.iter rfl rfl (.inl rfl) | exact SlotLe.iter rfl rfl (.inr rfl) | refine SlotLe.fix ?_ | refine SlotLe.dyn ?_) <;> ((repeat' first | exact LeL.nil | exact Le.refl _ | refine LeL.cons ?_ ?_ | exact Le.ic rfl | exact Le.bc rfl | exact Le.i rfl | exact Le.b rfl | exact Le.sl rfl | exact Le.mp rfl | exact Le.csl rfl | exact Le.cslsl rfl | exact Le.nils rfl (fun _ => ⟨trivial, trivial⟩) | refine Le.lst rfl (fun _ _ => rfl) (fun _ => ⟨trivial, trivial⟩) ?_ | refine Le.lst rfl (fun _ _ => rfl) (fun _ => ⟨fun _ => ⟨trivial, trivial⟩, trivial⟩) ?_ | exact Le.nils rfl (fun _ => ⟨fun _ => ⟨trivial, trivial⟩, trivial⟩) | exact Le.nils rfl (fun x => (cCm_ok x).1) | refine Le.lst rfl (fun _ _ => rfl) (fun x => (cCm_ok x).1) ?_ | refine Le.agg ?_ | refine Le.tup ?_ | refine Le.fn ?_ ?_ | refine Le.spt ?_ | exact Le.any _))) <;> first | exact .sl hh.symm | exact .i hix) (by ((try cbv) <;> (repeat' (first | with_reducible exact trivial | with_reducible refine And.intro ?_ ?_)) <;> (try first | exact SlotLe.refl _ | exact SlotLe.dyn rfl | exact SlotLe.map rfl | exact SlotLe.iter rfl rfl (.inl rfl) | exact SlotLe.iter rfl rfl (.inr rfl) | refine SlotLe.fix ?_ | refine SlotLe.dyn ?_) <;> ((repeat' first | exact LeL.nil | exact Le.refl _ | refine LeL.cons ?_ ?_ | exact Le.ic rfl | exact Le.bc rfl | exact Le.i rfl | exact Le.b rfl | exact Le.sl rfl | exact Le.mp rfl | exact Le.csl rfl | exact Le.cslsl rfl | exact Le.nils rfl (fun _ => ⟨trivial, trivial⟩) | refine Le.lst rfl (fun _ _ => rfl) (fun _ => ⟨trivial, trivial⟩) ?_ | refine Le.lst rfl (fun _ _ => rfl) (fun _ => ⟨fun _ => ⟨trivial, trivial⟩, trivial⟩) ?_ | exact Le.nils rfl (fun _ => ⟨fun _ => ⟨trivial, trivial⟩, trivial⟩) | exact Le.nils rfl (fun x => (cCm_ok x).1) | refine Le.lst rfl (fun _ _ => rfl) (fun x => (cCm_ok x).1) ?_ | refine Le.agg ?_ | refine Le.tup ?_ | refine Le.fn ?_ ?_ | refine Le.spt ?_ | exact Le.any _)))) (tail o hop (.inl rfl))

  · intro w hwp hw
    refine Sat.go ctx23_ok ctx23_inl (lv := 2) (by kernel_rfl) ?_
    have q1 : (([] : List Cm).length + h.length) * 48 ≤ 140737488355328 := by simp; omega
    have q2 : ([] : List Cm).length + h.length ≤ 9223372036854775807 := by simp; omega
    have hm2 : 0 ≤ (j : Int) ∧ ((j : Int)).toNat < ([] ++ h : List Cm).length := ⟨Int.natCast_nonneg j, by simpa using hm⟩
    have ho2 : ([] ++ h : List Cm)[((j : Int)).toNat]? = some o := by simpa using ho
    have ho3 : h[((j : Int)).toNat]? = some o := by simpa using ho
    have hj2 : 0 ≤ (j : Int) := Int.natCast_nonneg j
    have hset : ([] ++ h : List Cm).set ((j : Int)).toNat w = h.set j w := by simp
    have hgv : Hv (h.set j w) := ⟨by rw [List.length_set]; exact hv.n, fun c hc => by
      rcases List.mem_or_eq_of_mem_set hc with hc | rfl
      · exact H.m c hc
      · exact hwp⟩
    have hfin : (eqB (okC (h.set j w)) 0 == w.same o) = true := by
      have h1 := set_ok G ho hw
      unfold okC
      by_cases e : w = o
      · have : w.same o = true := (Cm.same_iff _ _).2 e
        rw [h1, this]; simp [e, eqB]
      · have : w.same o = false := by
          cases q : w.same o with
          | false => rfl
          | true => exact absurd ((Cm.same_iff _ _).1 q) e
        rw [h1, this]; simp [e, eqB]
    cbv
    refine ⟨h, ⟨.sl rfl, q1, q2⟩, ?_⟩
    cbv
    refine ⟨⟨hm2⟩, ?_⟩
    refine ⟨(o, w), ⟨ho2, rfl, by ((repeat' first | exact LeL.nil | exact Le.refl _ | refine LeL.cons ?_ ?_ | exact Le.ic rfl | exact Le.bc rfl | exact Le.i rfl | exact Le.b rfl | exact Le.sl rfl | exact Le.mp rfl | exact Le.csl rfl | exact Le.cslsl rfl | exact Le.nils rfl (fun _ => ⟨trivial, trivial⟩) | refine Le.lst rfl (fun _ _ => rfl) (fun _ => ⟨trivial, trivial⟩) ?_ | refine Le.lst rfl (fun _ _ => rfl) (fun _ => ⟨fun _ => ⟨trivial, trivial⟩, trivial⟩) ?_ | exact Le.nils rfl (fun _ => ⟨fun _ => ⟨trivial, trivial⟩, trivial⟩) | exact Le.nils rfl (fun x => (cCm_ok x).1) | refine Le.lst rfl (fun _ _ => rfl) (fun x => (cCm_ok x).1) ?_ | refine Le.agg ?_ | refine Le.tup ?_ | refine Le.fn ?_ ?_ | refine Le.spt ?_ | exact Le.any _))⟩, ?_⟩
    cbv
    refine ⟨h.set j w, ⟨.cons (.sl hset) .nil, hgv, rfl⟩, ?_⟩
    cbv
    refine ⟨o, ⟨hj2, ho3⟩, ?_⟩
    cbv
    refine ⟨⟨w, o⟩, ⟨by ((repeat' first | exact LeL.nil | exact Le.refl _ | refine LeL.cons ?_ ?_ | exact Le.ic rfl | exact Le.bc rfl | exact Le.i rfl | exact Le.b rfl | exact Le.sl rfl | exact Le.mp rfl | exact Le.csl rfl | exact Le.cslsl rfl | exact Le.nils rfl (fun _ => ⟨trivial, trivial⟩) | refine Le.lst rfl (fun _ _ => rfl) (fun _ => ⟨trivial, trivial⟩) ?_ | refine Le.lst rfl (fun _ _ => rfl) (fun _ => ⟨fun _ => ⟨trivial, trivial⟩, trivial⟩) ?_ | exact Le.nils rfl (fun _ => ⟨fun _ => ⟨trivial, trivial⟩, trivial⟩) | exact Le.nils rfl (fun x => (cCm_ok x).1) | refine Le.lst rfl (fun _ _ => rfl) (fun x => (cCm_ok x).1) ?_ | refine Le.agg ?_ | refine Le.tup ?_ | refine Le.fn ?_ ?_ | refine Le.spt ?_ | exact Le.any _)), by show w.par.length < _; omega⟩, ?_⟩
    cbv
    refine ⟨fun h0 => ?_, fun h0 => ?_⟩
    rotate_left
    · cbv
      exfalso
      have h0 : (eqB (okC (h.set j w)) 0 == w.same o) = false := h0.out
      rw [hfin] at h0; cases h0
    cbv

    refine ⟨h, ⟨by ((repeat' first | exact LeL.nil | exact Le.refl _ | refine LeL.cons ?_ ?_ | exact Le.ic rfl | exact Le.bc rfl | exact Le.i rfl | exact Le.b rfl | exact Le.sl rfl | exact Le.mp rfl | exact Le.csl rfl | exact Le.cslsl rfl | exact Le.nils rfl (fun _ => ⟨trivial, trivial⟩) | refine Le.lst rfl (fun _ _ => rfl) (fun _ => ⟨trivial, trivial⟩) ?_ | refine Le.lst rfl (fun _ _ => rfl) (fun _ => ⟨fun _ => ⟨trivial, trivial⟩, trivial⟩) ?_ | exact Le.nils rfl (fun _ => ⟨fun _ => ⟨trivial, trivial⟩, trivial⟩) | exact Le.nils rfl (fun x => (cCm_ok x).1) | refine Le.lst rfl (fun _ _ => rfl) (fun x => (cCm_ok x).1) ?_ | refine Le.agg ?_ | refine Le.tup ?_ | refine Le.fn ?_ ?_ | refine Le.spt ?_ | exact Le.any _)), hv⟩, ?_⟩
    cbv
    refine ⟨fun h0 => ?_, fun h0 => ?_⟩
    rotate_left
    · cbv
      exfalso
      have h0 : eqB (okC h) 0 = false := h0.out
      rw [hok] at h0; cases h0
    cbv

    exact ⟨.refl _⟩

end Go.Proofs.Hist
